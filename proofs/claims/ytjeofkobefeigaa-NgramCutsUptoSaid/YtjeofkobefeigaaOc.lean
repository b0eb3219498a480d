/- Where a run stands in a text; the entries with one place more. -/
import Derived.Test.YtjeofkobefeigaaIx
set_option linter.unusedVariables false
set_option linter.unusedSimpArgs false
namespace Go.Proofs.Ytjeofkobefeigaa.Wk
open Go.RowKit Go.Proofs.YtjeofkobefeigaaW.PrintWords Go.Proofs.YtjeofkobefeigaaW.PrintLast Go.Proofs.YtjeofkobefeigaaW.PrintMore Go.Proofs.Ytjeofkobefeigaa.Mp
open Go.ChangeMaps (setBlock)
open Go.WideElems (modify_last set_self)

/-- Does the run g stand ahead of place q? -/
def at? (t g : List Int) (q : Nat) : Bool := decide (g.length ≤ q) && decide (gramAt t q g.length = g)
/-- The places ahead of which the run g stands, rising. -/
def occ (t g : List Int) : List Int := ((List.range (t.length + 1)).filter (at? t g)).map fun q : Nat => (q : Int)
theorem gramAt_snoc {t : List Int} {x : Int} {q n : Nat} (h : q ≤ t.length) : gramAt (t ++ [x]) q n = gramAt t q n := by
  unfold gramAt
  rw [List.take_append_of_le_length h]
theorem occ_snoc (t g : List Int) (x : Int) : occ (t ++ [x]) g = occ t g ++ (if at? (t ++ [x]) g (t.length + 1) = true then [((t.length + 1 : Nat) : Int)] else []) := by
  unfold occ
  rw [List.length_append, List.length_singleton, List.range_succ, List.filter_append, List.map_append]
  congr 1
  · congr 1
    refine List.filter_congr fun q hq => ?_
    have := List.mem_range.1 hq
    unfold at?
    rw [gramAt_snoc (by omega)]
  · by_cases c : at? (t ++ [x]) g (t.length + 1) = true
    · rw [if_pos c]; simp [List.filter, c]
    · rw [if_neg c]
      have c' : at? (t ++ [x]) g (t.length + 1) = false := by simpa using c
      simp [List.filter, c']
theorem occ_length (t g : List Int) : (occ t g).length ≤ t.length + 1 := by
  unfold occ
  rw [List.length_map]
  exact Nat.le_trans (List.length_filter_le _ _) (by rw [List.length_range]; exact Nat.le_refl _)
/-- The rows of an index of runs of up to most. -/
def ocM (most : Nat) (t g : List Int) : List Int := if g.length ≤ most then occ t g else []
/-- .. while a token is appended, behind the runs of less than n tokens. -/
def ocN (most n : Nat) (t : List Int) (x : Int) (g : List Int) : List Int := if g.length ≤ most then (if g.length < n then occ (t ++ [x]) g else occ t g) else []
def updO (O : List Int → List Int) (g l : List Int) (g' : List Int) : List Int := if g' = g then l else O g'
theorem ocN_one (most : Nat) (t : List Int) (x : Int) {g : List Int} (hg : Gram g) : ocN most 1 t x g = ocM most t g := by
  unfold ocN ocM
  have := hg.1
  rw [if_neg (show ¬ g.length < 1 by omega)]
theorem ocN_step {most n : Nat} {t : List Int} {x : Int} (h1 : 1 ≤ n) (hm : n ≤ most) (hp : n ≤ t.length + 1) (g : List Int) :
    updO (ocN most n t x) (gramAt (t ++ [x]) (t.length + 1) n) (ocN most n t x (gramAt (t ++ [x]) (t.length + 1) n) ++ [((t.length + 1 : Nat) : Int)]) g = ocN most (n + 1) t x g := by
  have hl : (gramAt (t ++ [x]) (t.length + 1) n).length = n := gramAt_length hp (by simp)
  unfold updO
  by_cases c : g = gramAt (t ++ [x]) (t.length + 1) n
  · subst c
    rw [if_pos rfl]
    unfold ocN
    rw [hl, if_pos hm, if_pos hm, if_neg (show ¬ n < n by omega), if_pos (show n < n + 1 by omega), occ_snoc, if_pos]
    unfold at?
    rw [hl]
    simp [hp]
  · rw [if_neg c]
    unfold ocN
    by_cases c1 : g.length ≤ most
    · rw [if_pos c1, if_pos c1]
      by_cases c2 : g.length < n
      · rw [if_pos c2, if_pos (by omega)]
      · rw [if_neg c2]
        by_cases c3 : g.length < n + 1
        · rw [if_pos c3, occ_snoc, if_neg, List.append_nil]
          have e : g.length = n := by omega
          unfold at?
          rw [e]
          simp
          exact fun _ h => c h.symm
        · rw [if_neg c3]
    · rw [if_neg c1, if_neg c1]
theorem ocN_last {most n : Nat} {t : List Int} {x : Int} (h : most < n ∨ t.length + 1 < n) (g : List Int) : ocN most n t x g = ocM most (t ++ [x]) g := by
  unfold ocN ocM
  by_cases c1 : g.length ≤ most
  · rw [if_pos c1, if_pos c1]
    by_cases c2 : g.length < n
    · rw [if_pos c2]
    · rw [if_neg c2, occ_snoc, if_neg, List.append_nil]
      unfold at?
      have : ¬ g.length ≤ t.length + 1 := by omega
      simp [this]
  · rw [if_neg c1, if_neg c1]
theorem EndsOk.congr {w : World} {F : Nat → Prop} {es : List MapEntry} {O O' : List Int → List Int} {tv : Value} (h : EndsOk w F es O tv) (hO : ∀ g, Gram g → O g = O' g) : EndsOk w F es O' tv :=
  ⟨fun j e he => by obtain ⟨g, h1, h2, h3⟩ := h.row j e he; exact ⟨g, h1, h2, by rw [← hO g h1]; exact h3⟩, fun g hg hn => by rw [← hO g hg]; exact h.none g hg hn, h.keys, h.apart, h.text⟩
theorem setBlock_other {w : World} {b k : Nat} {o : Obj} (h : k ≠ b) : (setBlock w b o).heap[k]? = w.heap[k]? := by
  unfold setBlock
  simp only [Array.getElem?_setIfInBounds]
  rw [if_neg (by omega)]
theorem setBlock_at {w : World} {b : Nat} {o : Obj} (h : b < w.heap.size) : (setBlock w b o).heap[b]? = some o := by
  unfold setBlock
  simp only [Array.getElem?_setIfInBounds]
  rw [if_pos trivial, if_pos h]
theorem R_ne_map {w : World} {F : Nat → Prop} {v : Value} {xs : List Int} (h : Kd.R (Kd.int .i64) 3 w 0 F v xs) {m : Nat} {es : Array MapEntry} {clock : Nat} (hm : w.heap[m]? = some (.map es clock)) : ∀ k, v.ownBlock = some k → k ≠ m := fun k hk e => by
  obtain ⟨_, inner, ⟨_, ho⟩, _⟩ := h
  rcases ho with ⟨rfl, _⟩ | ⟨g, cap, cur, rfl, _, hc, _⟩
  · cases hk
  · injection hk with hk
    subst hk
    subst e
    have hc : w.heap[g]? = _ := hc
    rw [hm] at hc
    cases hc
theorem R_setBlock {w : World} {F : Nat → Prop} {v : Value} {xs : List Int} (h : Kd.R (Kd.int .i64) 3 w 0 F v xs) {m : Nat} {es : Array MapEntry} {clock : Nat} (hm : w.heap[m]? = some (.map es clock)) (o : Obj) : Kd.R (Kd.int .i64) 3 (setBlock w m o) 0 F v xs := by
  have hne := R_ne_map h hm
  obtain ⟨h0, inner, hown, hr⟩ := h
  refine ⟨h0, inner, ⟨hown.1, ?_⟩, hr⟩
  rcases hown.2 with h1 | ⟨g, cap, cur, rfl, h2, hc, h3⟩
  · exact .inl h1
  · exact .inr ⟨g, cap, cur, rfl, h2, (setBlock_other (hne g rfl)).trans hc, h3⟩
/-- An entry's row with one place more: where the run was a key. -/
theorem EndsOk.old {W w1 : World} {F : Nat → Prop} {es : List MapEntry} {O : List Int → List Int} {tv v1 : Value} (h : EndsOk W F es O tv) {j : Nat} {e0 : MapEntry} (he : es[j]? = some e0) {g : List Int} (hg : Gram g) (hk : e0.key = keyG g) {l : List Int}
    (hR : Kd.R (Kd.int .i64) 3 w1 0 F v1 l) (hgr : W.grownBy w1 e0.val.ownBlock) (hat : v1.ownBlock = e0.val.ownBlock ∨ ∃ b, v1.ownBlock = some b ∧ W.heap.size ≤ b) (hlt : ∀ k, tv.ownBlock = some k → k < W.heap.size) :
    EndsOk w1 F (es.modify j (fun e => { e with val := v1 })) (updO O g l) tv := by
  have hget : ∀ (i : Nat) (e : MapEntry), (es.modify j (fun e => { e with val := v1 }))[i]? = some e → (i = j ∧ e = { e0 with val := v1 }) ∨ (i ≠ j ∧ es[i]? = some e) := fun i e hi => by
    rw [List.getElem?_modify] at hi
    by_cases c : j = i
    · subst c
      rw [he] at hi
      simp at hi
      exact .inl ⟨rfl, hi.symm⟩
    · simp [c] at hi
      exact .inr ⟨fun e => c e.symm, hi⟩
  obtain ⟨g0, hg0, hk0, hR0⟩ := h.row j e0 he
  have hgg : g0 = g := keyG_inj hg0 hg (hk0.symm.trans hk)
  subst hgg
  have hkeys : (es.modify j (fun e => { e with val := v1 })).map (·.key) = es.map (·.key) := by
    refine List.ext_getElem? fun i => ?_
    rw [List.getElem?_map, List.getElem?_map, List.getElem?_modify]
    by_cases c : j = i
    · subst c; simp [he]
    · simp [c]
  refine ⟨fun i e hi => ?_, fun g' hg' hno => ?_, by rw [hkeys]; exact h.keys, fun i i' e e' hne hi hi' => ?_, fun e hm => ?_⟩
  · rcases hget i e hi with ⟨rfl, rfl⟩ | ⟨hij, hi⟩
    · exact ⟨g0, hg0, hk0, by unfold updO; rw [if_pos rfl]; exact hR⟩
    · obtain ⟨g1, hg1, hk1, hR1⟩ := h.row i e hi
      refine ⟨g1, hg1, hk1, ?_⟩
      have hne : g1 ≠ g0 := fun e1 => by
        subst e1
        obtain ⟨hil, hi2⟩ := List.getElem?_eq_some_iff.1 hi
        obtain ⟨hjl, hj2⟩ := List.getElem?_eq_some_iff.1 he
        have hp := List.pairwise_iff_getElem.1 h.keys
        have e2 : es[i].key = es[j].key := by rw [hi2, hj2, hk1, hk0]
        rcases Nat.lt_or_gt_of_ne hij with c | c
        · have := hp i j (by simpa using hil) (by simpa using hjl) c
          simp only [List.getElem_map] at this
          exact this e2
        · have := hp j i (by simpa using hjl) (by simpa using hil) c
          simp only [List.getElem_map] at this
          exact this e2.symm
      unfold updO
      rw [if_neg hne]
      exact Kd.R_grown2 hR1 rfl hgr (h.apart j i e0 e (fun h => hij h.symm) he hi)
  · have hno' : ∀ e ∈ es, e.key ≠ keyG g' := fun e he2 hk2 => by
      have : e.key ∈ es.map (·.key) := List.mem_map.2 ⟨e, he2, rfl⟩
      rw [← hkeys] at this
      obtain ⟨e3, h3, h4⟩ := List.mem_map.1 this
      exact hno e3 h3 (h4.trans hk2)
    have hne : g' ≠ g0 := fun e1 => by
      subst e1
      exact hno' e0 (List.mem_of_getElem? he) hk0
    unfold updO
    rw [if_neg hne]
    exact h.none g' hg' hno'
  · have hat' : ∀ (i : Nat) (e : MapEntry), i ≠ j → es[i]? = some e → Apart v1 e.val := fun i e hij hi => by
      obtain ⟨g1, _, _, hR1⟩ := h.row i e hi
      exact (h.apart j i e0 e (fun h => hij h.symm) he hi).after (Kd.R_lt hR1) hat
    rcases hget i e hi with ⟨hij, rfl⟩ | ⟨hij, hi2⟩
    · rcases hget i' e' hi' with ⟨hij', rfl⟩ | ⟨hij', hi2'⟩
      · exact absurd (hij.trans hij'.symm) hne
      · exact hat' i' e' hij' hi2'
    · rcases hget i' e' hi' with ⟨hij', rfl⟩ | ⟨hij', hi2'⟩
      · exact (hat' i e hij hi2).symm
      · exact h.apart i i' e e' hne hi2 hi2'
  · obtain ⟨i, hi⟩ := List.mem_iff_getElem?.1 hm
    rcases hget i e hi with ⟨rfl, rfl⟩ | ⟨hij, hi⟩
    · exact ((h.text e0 (List.mem_of_getElem? he)).symm.after hlt hat).symm
    · exact h.text e (List.mem_of_getElem? hi)
/-- .. where the run was no key yet. -/
theorem EndsOk.new {W w1 : World} {F : Nat → Prop} {es : List MapEntry} {O : List Int → List Int} {tv v1 : Value} (h : EndsOk W F es O tv) {g : List Int} (hg : Gram g) (hno : ∀ e ∈ es, e.key ≠ keyG g) {l : List Int}
    (hR : Kd.R (Kd.int .i64) 3 w1 0 F v1 l) (hgr : W.grownBy w1 Option.none) (hat : ∀ b, v1.ownBlock = some b → W.heap.size ≤ b) (hlt : ∀ k, tv.ownBlock = some k → k < W.heap.size) (clock : Nat) :
    EndsOk w1 F (es ++ [⟨keyG g, v1, clock⟩]) (updO O g l) tv := by
  have hget : ∀ (i : Nat) (e : MapEntry), (es ++ [⟨keyG g, v1, clock⟩])[i]? = some e → (i = es.length ∧ e = ⟨keyG g, v1, clock⟩) ∨ (i < es.length ∧ es[i]? = some e) := fun i e hi => by
    rcases Nat.lt_trichotomy i es.length with c | c | c
    · rw [List.getElem?_append_left c] at hi
      exact .inr ⟨c, hi⟩
    · subst c
      rw [List.getElem?_append_right (Nat.le_refl _)] at hi
      simp at hi
      exact .inl ⟨rfl, hi.symm⟩
    · rw [List.getElem?_eq_none (by simp; omega)] at hi
      cases hi
  have hat' : ∀ (i : Nat) (e : MapEntry), es[i]? = some e → Apart v1 e.val := fun i e hi k hk e1 => by
    obtain ⟨g1, _, _, hR1⟩ := h.row i e hi
    have := Kd.R_lt hR1 k e1.symm
    have := hat k hk
    omega
  refine ⟨fun i e hi => ?_, fun g' hg' hn => ?_, ?_, fun i i' e e' hne hi hi' => ?_, fun e hm => ?_⟩
  · rcases hget i e hi with ⟨_, rfl⟩ | ⟨hij, hi⟩
    · exact ⟨g, hg, rfl, by unfold updO; rw [if_pos rfl]; exact hR⟩
    · obtain ⟨g1, hg1, hk1, hR1⟩ := h.row i e hi
      refine ⟨g1, hg1, hk1, ?_⟩
      have hne : g1 ≠ g := fun e1 => hno e (List.mem_of_getElem? hi) (by rw [hk1, e1])
      unfold updO
      rw [if_neg hne]
      exact Kd.R_grown2 hR1 rfl hgr (fun k hk e1 => by cases hk)
  · have hne : g' ≠ g := fun e1 => hn ⟨keyG g, v1, clock⟩ (by simp) (by rw [e1])
    unfold updO
    rw [if_neg hne]
    exact h.none g' hg' fun e he => hn e (List.mem_append_left _ he)
  · rw [List.map_append]
    refine List.nodup_append.2 ⟨h.keys, by simp, fun a ha c hc e1 => ?_⟩
    simp only [List.map_cons, List.map_nil, List.mem_singleton] at hc
    obtain ⟨x, hx, rfl⟩ := List.mem_map.1 ha
    exact hno x hx (e1.trans hc)
  · rcases hget i e hi with ⟨hij, rfl⟩ | ⟨hij, hi2⟩
    · rcases hget i' e' hi' with ⟨hij', rfl⟩ | ⟨hij', hi2'⟩
      · exact absurd (hij.trans hij'.symm) hne
      · exact hat' i' e' hi2'
    · rcases hget i' e' hi' with ⟨hij', rfl⟩ | ⟨hij', hi2'⟩
      · exact (hat' i e hi2).symm
      · exact h.apart i i' e e' hne hi2 hi2'
  · rcases List.mem_append.1 hm with hm | hm
    · exact h.text e hm
    · obtain rfl := List.mem_singleton.1 hm
      intro k hk e1
      have := hlt k hk
      have := hat k e1.symm
      omega
theorem EndsOk.setBlock {w : World} {F : Nat → Prop} {es : List MapEntry} {O : List Int → List Int} {tv : Value} (h : EndsOk w F es O tv) {m : Nat} {es' : Array MapEntry} {clock : Nat} (hm : w.heap[m]? = some (.map es' clock)) (o : Obj) : EndsOk (setBlock w m o) F es O tv :=
  ⟨fun j e he => by obtain ⟨g, h1, h2, h3⟩ := h.row j e he; exact ⟨g, h1, h2, R_setBlock h3 hm o⟩, h.none, h.keys, h.apart, h.text⟩
end Go.Proofs.Ytjeofkobefeigaa.Wk
