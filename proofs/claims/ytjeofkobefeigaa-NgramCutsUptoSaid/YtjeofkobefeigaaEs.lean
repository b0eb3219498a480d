/- An index, step by step: a token behind its text; a place behind a run's row. -/
import Derived.Test.YtjeofkobefeigaaOc
set_option linter.unusedVariables false
set_option linter.unusedSimpArgs false
namespace Go.Proofs.Ytjeofkobefeigaa.Wk
open Go.RowKit Go.Proofs.YtjeofkobefeigaaW.PrintWords Go.Proofs.YtjeofkobefeigaaW.PrintLast Go.Proofs.YtjeofkobefeigaaW.PrintMore Go.Proofs.Ytjeofkobefeigaa.Mp
open Go.ChangeMaps (setBlock)
open Go.WideElems (modify_last set_self)

theorem R_fr {w w1 : World} {F G : Nat → Prop} {v : Value} {xs : List Int} (h : Kd.R (Kd.int .i64) 3 w 0 F v xs) (hf : Fr G w w1) (hne : ∀ k, v.ownBlock = some k → ¬ G k) : Kd.R (Kd.int .i64) 3 w1 0 F v xs := by
  obtain ⟨h0, inner, hown, hr⟩ := h
  refine ⟨h0, inner, ⟨hown.1, ?_⟩, hr⟩
  rcases hown.2 with h1 | ⟨g, cap, cur, rfl, h2, hc, h3⟩
  · exact .inl h1
  · exact .inr ⟨g, cap, cur, rfl, h2, (hf.block g (blk_lt hc) (hne g rfl)).trans hc, h3⟩
theorem EndsOk.fr {w w1 : World} {F G : Nat → Prop} {es : List MapEntry} {O : List Int → List Int} {tv : Value} (h : EndsOk w F es O tv) (hf : Fr G w w1) (hne : ∀ e ∈ es, ∀ k, e.val.ownBlock = some k → ¬ G k) : EndsOk w1 F es O tv :=
  ⟨fun j e he => by obtain ⟨g, h1, h2, h3⟩ := h.row j e he; exact ⟨g, h1, h2, R_fr h3 hf (hne e (List.mem_of_getElem? he))⟩, h.none, h.keys, h.apart, h.text⟩
theorem C_fr {w w1 : World} {G : Nat → Prop} {A : Option Addr} {n : Nat} {xs : List Int} (h : Kd.C (Kd.int .i64) w A n xs) (hf : Fr G w w1) (hne : ∀ ad, A = some ad → ¬ G ad.block) : Kd.C (Kd.int .i64) w1 A n xs := by
  obtain ⟨h1, h2, h3⟩ := Kd.reads_of_C (d := (0 : Int)) (h1 := fun _ => rfl) h
  refine Kd.C_of_reads (d := (0 : Int)) (h1 := fun _ => rfl) ⟨h1, h2, fun hn => ?_⟩
  obtain ⟨ad, e, hc⟩ := h3 hn
  refine ⟨ad, e, fun j hj => ?_⟩
  have hj' := hc j hj
  have hb := hf.block ad.block (by have := World.block_lt_of_cell? w (ad.add j) hj'; rwa [add_block] at this) (hne ad e)
  rw [← hj']
  simp [World.cell?, add_block, hb]
/-- An index, with what lies in it. -/
structure IdxE (w : World) (F : Nat → Prop) (B m : Nat) (most : Int) (t : List Int) (O : List Int → List Int) (tv : Value) (es : Array MapEntry) (clock : Nat) : Prop where
  box : w.heap[B]? = some (.cells #[.int .i64 most, tv, .map (some m)] 68 (0, 0))
  text : Kd.R (Kd.int .i64) 3 w 0 F tv t
  map : w.heap[m]? = some (.map es clock)
  stamp : Stamped es.toList clock
  ends : EndsOk w F es.toList O tv
  fB : F B
  fm : F m
theorem Idx.open {w : World} {F : Nat → Prop} {B m : Nat} {most : Int} {t : List Int} {O : List Int → List Int} (h : Idx w F B m most t O) : ∃ tv es clock, IdxE w F B m most t O tv es clock := by
  obtain ⟨⟨tv, es, clock, h1, h2, h3, h4, h5⟩, fB, fm⟩ := h
  exact ⟨tv, es, clock, h1, h2, h3, h4, h5, fB, fm⟩
theorem IdxE.shut {w : World} {F : Nat → Prop} {B m : Nat} {most : Int} {t : List Int} {O : List Int → List Int} {tv : Value} {es : Array MapEntry} {clock : Nat} (h : IdxE w F B m most t O tv es clock) : Idx w F B m most t O :=
  ⟨⟨tv, es, clock, h.box, h.text, h.map, h.stamp, h.ends⟩, h.fB, h.fm⟩
theorem IdxE.below {w w1 : World} {F : Nat → Prop} {B m : Nat} {most : Int} {t : List Int} {O : List Int → List Int} {tv : Value} {es : Array MapEntry} {clock : Nat} (h : IdxE w F B m most t O tv es clock) (hb : Below w.heap.size w w1) : IdxE w1 F B m most t O tv es clock :=
  ⟨blk_below h.box hb, Kd.R_below h.text hb, blk_below h.map hb, h.stamp, h.ends.below hb, h.fB, h.fm⟩
theorem IdxE.congr {w : World} {F : Nat → Prop} {B m : Nat} {most : Int} {t : List Int} {O O' : List Int → List Int} {tv : Value} {es : Array MapEntry} {clock : Nat} (h : IdxE w F B m most t O tv es clock) (hO : ∀ g, Gram g → O g = O' g) : IdxE w F B m most t O' tv es clock :=
  ⟨h.box, h.text, h.map, h.stamp, h.ends.congr hO, h.fB, h.fm⟩
theorem IdxE.ne {w : World} {F : Nat → Prop} {B m : Nat} {most : Int} {t : List Int} {O : List Int → List Int} {tv : Value} {es : Array MapEntry} {clock : Nat} (h : IdxE w F B m most t O tv es clock) : B ≠ m := fun e => by
  have h1 := h.box
  have h2 := h.map
  rw [e, h2] at h1
  cases h1
theorem R_neB {w : World} {F : Nat → Prop} {v : Value} {xs : List Int} (h : Kd.R (Kd.int .i64) 3 w 0 F v xs) {B : Nat} {cs : Array Value} (hB : w.heap[B]? = some (.cells cs 68 (0, 0))) : ∀ k, v.ownBlock = some k → k ≠ B := fun k hk e => Kd.R_ne h hB (by decide) (by rw [hk, e])
theorem R_set {w : World} {F : Nat → Prop} {v : Value} {xs : List Int} (h : Kd.R (Kd.int .i64) 3 w 0 F v xs) {B : Nat} {cs : Array Value} (hB : w.heap[B]? = some (.cells cs 68 (0, 0))) (i : Nat) (u : Value) : Kd.R (Kd.int .i64) 3 (w.setCell ⟨B, i, none⟩ u) 0 F v xs := by
  have hne := R_neB h hB
  obtain ⟨h0, inner, hown, hr⟩ := h
  refine ⟨h0, inner, ⟨hown.1, ?_⟩, hr⟩
  rcases hown.2 with h1 | ⟨g, cap, cur, rfl, h2, hc, h3⟩
  · exact .inl h1
  · exact .inr ⟨g, cap, cur, rfl, h2, (Below.heap_setCell w ⟨B, i, none⟩ u g (hne g rfl)).trans hc, h3⟩
theorem Fr.set {F : Nat → Prop} {a b : World} {B : Nat} (h : Fr F a b) (hB : F B) (i : Nat) (u : Value) : Fr F a (b.setCell ⟨B, i, none⟩ u) :=
  ⟨h.os, h.tape, h.output, by simpa [World.setCell] using h.size, fun k hk hf => (Below.heap_setCell b ⟨B, i, none⟩ u k (fun e => hf (by have e' : k = B := e; rw [e']; exact hB))).trans (h.block k hk hf)⟩
theorem Fr.setBlock {F : Nat → Prop} {a b : World} {B : Nat} (h : Fr F a b) (hB : F B) (o : Obj) : Fr F a (setBlock b B o) :=
  ⟨h.os, h.tape, h.output, by simpa [Go.ChangeMaps.setBlock] using h.size, fun k hk hf => (setBlock_other (fun e => hf (by rw [e]; exact hB))).trans (h.block k hk hf)⟩
theorem Fr.mono {F G : Nat → Prop} {a b : World} (h : Fr F a b) (hFG : ∀ k, F k → G k) : Fr G a b := ⟨h.os, h.tape, h.output, h.size, fun k hk hg => h.block k hk (fun hf => hg (hFG k hf))⟩
/-- The text with one token more, stored. -/
theorem IdxE.text_step {W w1 : World} {F : Nat → Prop} {B m : Nat} {most : Int} {t t' : List Int} {O : List Int → List Int} {tv v1 : Value} {es : Array MapEntry} {clock : Nat} (h : IdxE W F B m most t O tv es clock)
    (hR : Kd.R (Kd.int .i64) 3 w1 0 F v1 t') (hg : W.grownBy w1 tv.ownBlock) (hat : v1.ownBlock = tv.ownBlock ∨ ∃ b, v1.ownBlock = some b ∧ W.heap.size ≤ b) :
    IdxE (w1.setCell ⟨B, 1, none⟩ v1) F B m most t' O v1 es clock ∧ Fr F W (w1.setCell ⟨B, 1, none⟩ v1) := by
  have hB1 : w1.heap[B]? = some (.cells #[.int .i64 most, tv, .map (some m)] 68 (0, 0)) := blk_grown h.box hg (fun e => R_neB h.text h.box B e.symm rfl)
  have hm1 : w1.heap[m]? = some (.map es clock) := (hg.block m (blk_lt h.map) (fun e => R_ne_map h.text h.map m e.symm rfl)).trans h.map
  refine ⟨⟨blk_put hB1 1 v1 rfl, R_set hR hB1 1 v1, (Below.heap_setCell w1 ⟨B, 1, none⟩ v1 m (fun e => h.ne e.symm)).trans hm1, h.stamp, ?_, h.fB, h.fm⟩, (Fr.of_grown hg (fun k hk => h.text.1 k hk)).set h.fB 1 v1⟩
  refine ⟨fun j e he => ?_, h.ends.none, h.ends.keys, h.ends.apart, fun e he => ?_⟩
  · obtain ⟨g, h1, h2, h3⟩ := h.ends.row j e he
    exact ⟨g, h1, h2, R_set (Kd.R_grown2 h3 rfl hg (h.ends.text e (List.mem_of_getElem? he))) hB1 1 v1⟩
  · obtain ⟨j, hj⟩ := List.mem_iff_getElem?.1 he
    obtain ⟨g, _, _, h3⟩ := h.ends.row j e hj
    exact (h.ends.text e he).after (Kd.R_lt h3) hat
theorem R_nilA {w : World} {F : Nat → Prop} : Kd.R (Kd.int .i64) 3 w 0 F (.slice none 0 0) [] := Kd.R_nil _ _ _ _ _
/-- A run's row with one place more (or in any other way written anew): asked for, and stored back. -/
theorem IdxE.entry_step {w : World} {F : Nat → Prop} {B m : Nat} {most : Int} {t : List Int} {O : List Int → List Int} {tv : Value} {es : Array MapEntry} {clock : Nat} (h : IdxE w F B m most t O tv es clock) {g : List Int} (hg : Gram g) :
    ∃ (v0 : Value) (st : Nat) (es1 : Array MapEntry) (clock1 : Nat), (∀ W : World, W.heap[m]? = w.heap[m]? → (Instr.mapEntry 66 (.map (some m)) (keyG g)).run Try.prog W = .ok (.tuple #[v0, goInt st]) (setBlock W m (.map es1 clock1))) ∧
      Kd.R (Kd.int .i64) 3 w 0 F v0 (O g) ∧
      ∀ (Wx W2 : World) (val : Value) (l : List Int), Fr (fun k => k = m ∨ w.heap.size ≤ k) w Wx → Wx.heap[m]? = some (.map es1 clock1) → Wx.grownBy W2 v0.ownBlock → Kd.R (Kd.int .i64) 3 W2 0 F val l → (val.ownBlock = v0.ownBlock ∨ ∃ b, val.ownBlock = some b ∧ Wx.heap.size ≤ b) →
        ∃ es2, (Instr.entryStore 66 (.map (some m)) (goInt st) val).run Try.prog W2 = .ok () (setBlock W2 m (.map es2 clock1)) ∧ IdxE (setBlock W2 m (.map es2 clock1)) F B m most t (updO O g l) tv es2 clock1 := by
  have hko := h.ends.keysOk
  have hrows : ∀ e ∈ es.toList, ∀ k, e.val.ownBlock = some k → ¬ (k = m ∨ w.heap.size ≤ k) := fun e he k hk hh => by
    obtain ⟨j, hj⟩ := List.mem_iff_getElem?.1 he
    obtain ⟨_, _, _, h3⟩ := h.ends.row j e hj
    rcases hh with hh | hh
    · exact R_ne_map h3 h.map k hk hh
    · have := Kd.R_lt h3 k hk
      omega
  have htext : ∀ k, tv.ownBlock = some k → ¬ (k = m ∨ w.heap.size ≤ k) := fun k hk hh => by
    rcases hh with hh | hh
    · exact R_ne_map h.text h.map k hk hh
    · have := Kd.R_lt h.text k hk
      omega
  have hBG : ¬ (B = m ∨ w.heap.size ≤ B) := fun hh => by
    rcases hh with hh | hh
    · exact h.ne hh
    · have := blk_lt h.box
      omega
  by_cases hyes : ∃ e ∈ es.toList, e.key = keyG g
  · obtain ⟨j, e0, he0, hk0, _⟩ := entry_old h.map hko h.stamp (key_ok hg) hyes
    obtain ⟨g0, hg0, hkg0, hR0⟩ := h.ends.row j e0 he0
    have hgg : g0 = g := keyG_inj hg0 hg (hkg0.symm.trans hk0)
    subst hgg
    have huniq : ∀ (W : World), W.heap[m]? = some (.map es clock) → (Instr.mapEntry 66 (.map (some m)) (keyG g0)).run Try.prog W = .ok (.tuple #[e0.val, goInt e0.born]) (setBlock W m (.map es clock)) ∧
        ∀ (w2 : World) (val : Value), w2.heap[m]? = some (.map es clock) → (Instr.entryStore 66 (.map (some m)) (goInt e0.born) val).run Try.prog w2 = .ok () (setBlock w2 m (.map (es.modify j (fun e => { e with val := val })) clock)) := fun W hW => by
      obtain ⟨j', e0', he', hk', h1, h2⟩ := entry_old hW hko h.stamp (key_ok hg) hyes
      have hjj : j' = j := by
        obtain ⟨hil, hi2⟩ := List.getElem?_eq_some_iff.1 he'
        obtain ⟨hjl, hj2⟩ := List.getElem?_eq_some_iff.1 he0
        have hp := List.pairwise_iff_getElem.1 h.ends.keys
        have e2 : es.toList[j'].key = es.toList[j].key := by rw [hi2, hj2, hk', hk0]
        rcases Nat.lt_trichotomy j' j with c | c | c
        · have := hp j' j (by simpa using hil) (by simpa using hjl) c
          simp only [List.getElem_map] at this
          exact absurd e2 this
        · exact c
        · have := hp j j' (by simpa using hjl) (by simpa using hil) c
          simp only [List.getElem_map] at this
          exact absurd e2.symm this
      subst hjj
      have : e0' = e0 := by rw [he'] at he0; exact Option.some.inj he0
      subst this
      exact ⟨h1, h2⟩
    refine ⟨e0.val, e0.born, es, clock, fun W hW => (huniq W (hW.trans h.map)).1, hR0, fun Wx W2 val l hf hm hgr hR hat => ?_⟩
    have hR0x := R_fr hR0 hf (hrows e0 (List.mem_of_getElem? he0))
    have hm2 : W2.heap[m]? = some (.map es clock) := (hgr.block m (blk_lt hm) (fun e => R_ne_map hR0x hm m e.symm rfl)).trans hm
    refine ⟨_, (huniq Wx hm).2 W2 val hm2, ?_⟩
    have hBx : Wx.heap[B]? = some (.cells #[.int .i64 most, tv, .map (some m)] 68 (0, 0)) := (hf.block B (blk_lt h.box) hBG).trans h.box
    have hB2 : W2.heap[B]? = some (.cells #[.int .i64 most, tv, .map (some m)] 68 (0, 0)) := blk_grown hBx hgr (fun e => R_neB hR0x hBx B e.symm rfl)
    have htx := R_fr h.text hf htext
    have hlt : ∀ k, tv.ownBlock = some k → k < Wx.heap.size := Kd.R_lt htx
    refine ⟨(setBlock_other h.ne).trans hB2, R_setBlock (Kd.R_grown2 htx rfl hgr (h.ends.text e0 (List.mem_of_getElem? he0)).symm) hm2 _, setBlock_at (blk_lt hm2), ?_, ?_, h.fB, h.fm⟩
    · obtain ⟨s1, s2⟩ := h.stamp
      have hb : (es.modify j (fun e => { e with val := val })).toList.map (·.born) = es.toList.map (·.born) := by
        rw [Array.toList_modify]
        refine List.ext_getElem? fun i => ?_
        rw [List.getElem?_map, List.getElem?_map, List.getElem?_modify]
        by_cases c : j = i
        · subst c; simp [he0]
        · simp [c]
      refine ⟨fun x hx => ?_, by rw [hb]; exact s2⟩
      have : x.born ∈ (es.modify j (fun e => { e with val := val })).toList.map (·.born) := List.mem_map.2 ⟨x, hx, rfl⟩
      rw [hb] at this
      obtain ⟨y, hy, e⟩ := List.mem_map.1 this
      rw [← e]; exact s1 y hy
    · have he1 := (h.ends.fr hf hrows).old he0 hg hkg0 hR hgr hat hlt
      rw [← Array.toList_modify] at he1
      exact he1.setBlock hm2 _
  · have hno : ∀ e ∈ es.toList, e.key ≠ keyG g := fun e he hk => hyes ⟨e, he, hk⟩
    refine ⟨.slice none 0 0, clock, es.push ⟨keyG g, .slice none 0 0, clock⟩, clock + 1, fun W hW => (entry_new (hW.trans h.map) hko h.stamp (key_ok hg) hno).1, by rw [h.ends.none g hg hno]; exact R_nilA, fun Wx W2 val l hf hm hgr hR hat => ?_⟩
    have hgr' : Wx.grownBy W2 none := hgr
    have hm2 : W2.heap[m]? = some (.map (es.push ⟨keyG g, .slice none 0 0, clock⟩) (clock + 1)) := (hgr'.block m (blk_lt hm) (fun e => by cases e)).trans hm
    refine ⟨_, (entry_new h.map hko h.stamp (key_ok hg) hno).2 W2 val hm2, ?_⟩
    have hBx : Wx.heap[B]? = some (.cells #[.int .i64 most, tv, .map (some m)] 68 (0, 0)) := (hf.block B (blk_lt h.box) hBG).trans h.box
    have hB2 : W2.heap[B]? = some (.cells #[.int .i64 most, tv, .map (some m)] 68 (0, 0)) := blk_grown hBx hgr' (fun e => by cases e)
    have htx := R_fr h.text hf htext
    have hlt : ∀ k, tv.ownBlock = some k → k < Wx.heap.size := Kd.R_lt htx
    have hat' : ∀ b, val.ownBlock = some b → Wx.heap.size ≤ b := fun b hb => by
      rcases hat with hat | ⟨b', h1, h2⟩
      · rw [hb] at hat; cases hat
      · rw [hb] at h1; injection h1 with h1; omega
    refine ⟨(setBlock_other h.ne).trans hB2, R_setBlock (Kd.R_grown2 htx rfl hgr' (fun k hk => by cases hk)) hm2 _, setBlock_at (blk_lt hm2), by rw [Array.toList_push]; exact stamped_push h.stamp _ _, ?_, h.fB, h.fm⟩
    have he1 := (h.ends.fr hf hrows).new hg hno hR hgr' hat' hlt clock
    rw [← Array.toList_push] at he1
    exact he1.setBlock hm2 _
theorem setBlock_alloc {w : World} {b : Nat} {o o' : Obj} (hb : b < w.heap.size) : setBlock (w.alloc o') b o = (setBlock w b o).alloc o' := by
  unfold setBlock World.alloc
  congr 1
  simp only
  refine Array.ext_getElem? fun i => ?_
  simp only [Array.getElem?_setIfInBounds, Array.getElem?_push, Array.size_push, Array.size_setIfInBounds]
  by_cases c : b = i
  · subst c
    have h1 : b ≠ w.heap.size := by omega
    have h2 : b < w.heap.size + 1 := by omega
    simp [h1, h2, hb]
  · rw [if_neg c, if_neg c]
theorem occ_length1 {t g : List Int} (hg : Gram g) : (occ t g).length ≤ t.length := by
  have h0 : at? t g 0 = false := by
    have := hg.1
    unfold at?
    rw [decide_eq_false (by omega)]; rfl
  unfold occ
  rw [List.length_map, List.range_succ_eq_map, List.filter_cons_of_neg (by simp [h0])]
  exact Nat.le_trans (List.length_filter_le _ _) (by simp)
end Go.Proofs.Ytjeofkobefeigaa.Wk
