/- The walk of ngram's Propose. -/
import Derived.Test.YtjeofkobefeigaaYb
set_option linter.unusedVariables false
set_option linter.unusedSimpArgs false
namespace Go.Proofs.Ytjeofkobefeigaa.Wk
open Go.RowKit Go.Shelf Go.Proofs.YtjeofkobefeigaaW.PrintWords Go.Proofs.YtjeofkobefeigaaW.PrintLast Go.Proofs.YtjeofkobefeigaaW.PrintMore Go.Proofs.Ytjeofkobefeigaa.Mp Go.Proofs.Ytjeofkobefeigaa.PEqRaw
open Go.ChangeMaps (setBlock)
attribute [local go_sem] Oper.semAt_some

/-- What a receiver of Propose is: an index over t; of none there are no places. -/
def RecvOk (w : World) (q : Option Addr) (t : List Int) (pl : List Int) : Prop := pl ≠ [] → ∃ (B m : Nat) (most : Int) (At : Option Addr) (ct : Nat), q = some ⟨B, 0, none⟩ ∧ w.heap[B]? = some (.cells #[.int .i64 most, .slice At t.length ct, .map (some m)] 68 (0, 0)) ∧ Kd.C (Kd.int .i64) w At t.length t ∧ t.length ≤ ct
/-- The out list's box and row; the three boxes. -/
def PrB (w : World) (q : Option Addr) (ways deep : Int) (out : List S35) (W : World) : Prop :=
  (∃ v, W.heap[w.heap.size + 1 + 1 + 1]? = some (.cells #[v] 32 (0, 0)) ∧ k35.R 35 W w.heap.size (fun _ => True) v out) ∧ W.heap[w.heap.size]? = some (.cells #[.pointer q] 25 (0, 0)) ∧
    W.heap[w.heap.size + 1]? = some (.cells #[.int .i64 ways] 3 (0, 0)) ∧ W.heap[w.heap.size + 1 + 1]? = some (.cells #[.int .i64 deep] 3 (0, 0))
theorem prB_own {w : World} {q : Option Addr} {ways deep : Int} {out : List S35} {A B : World} {row : Option Nat} (h : PrB w q ways deep out A) (hg : A.grownBy B row) (hr : ∀ r, row = some r → ∃ o : Obj, A.heap[r]? = some o ∧ o.isCells = false) : PrB w q ways deep out B := by
  obtain ⟨⟨v, h1, h2⟩, h3, h4, h5⟩ := h
  exact ⟨⟨v, (cells_kept hg hr h1).trans h1, R35_same h2 (fun k hk => by obtain ⟨_, cs, fr, hc⟩ := R35_cells h2 k hk; exact cells_kept hg hr hc)⟩, (cells_kept hg hr h3).trans h3, (cells_kept hg hr h4).trans h4, (cells_kept hg hr h5).trans h5⟩
def PrI (w : World) (q : Option Addr) (ways deep : Int) (t : List Int) (L : Nat) (pre : List (Pl L)) (W : World) : Prop :=
  PrB w q (ways - pre.length) deep (proposeL t deep (pre.map (·.1))) W ∧ pre.length ≤ ways.toNat
def PrIx (w : World) (ways deep : Int) (t : List Int) (L : Nat) (c : Code) (pre : List (Pl L)) (W : World) : Prop :=
  c = .exit 0 ∧ ∃ pre0 x, pre = pre0 ++ [x] ∧ pre0.length = ways.toNat ∧ ∃ v, W.heap[w.heap.size + 1 + 1 + 1]? = some (.cells #[v] 32 (0, 0)) ∧ k35.R 35 W w.heap.size (fun _ => True) v (proposeL t deep (pre0.map (·.1)))
theorem prI_own (w : World) (q : Option Addr) (ways deep : Int) (t : List Int) (L : Nat) : Own (PrI w q ways deep t L) := fun s A B row h hg hr => ⟨prB_own h.1 hg hr, h.2⟩
theorem prIx_own (w : World) (ways deep : Int) (t : List Int) (L : Nat) (c : Code) : Own (PrIx w ways deep t L c) := fun s A B row ⟨h0, pre0, x, h1, h2, v, h3, h4⟩ hg hr =>
  ⟨h0, pre0, x, h1, h2, v, (cells_kept hg hr h3).trans h3, R35_same h4 (fun k hk => by obtain ⟨_, cs, fr, hc⟩ := R35_cells h4 k hk; exact cells_kept hg hr hc)⟩
/-- A round's inner loop. -/
def PrL (w : World) (q : Option Addr) (ways deep : Int) (t : List Int) (out : List S35) (p m : Nat) (W : World) (s9 s10 : Value) (wr : World) : Prop :=
  ∃ k : Nat, s10 = .int .i64 k ∧ k ≤ m ∧ s9 = .int .i64 (if k = 0 then -1 else (out.length : Int) + k - 1) ∧ PrB w q ways deep (chainN t p out k) wr ∧ KeepsOthers W wr ∧ KpB (fun i => i = w.heap.size + 1) (w.heap.size + 1 + 1 + 1) 32 W wr ∧ Below w.heap.size w wr
theorem KpB.setEx {Ex : Nat → Prop} {Bx : Nat} {tt : TypeId} (W : World) (e i : Nat) (u : Value) (he : Ex e) (hne : Bx ≠ e) : KpB Ex Bx tt W (W.setCell ⟨e, i, none⟩ u) := fun k ⟨⟨cs, t, fr, h1⟩, h2, h3, v, h4, h5⟩ => by
  have hk : k ≠ e := fun h => h2 (h ▸ he)
  have hs := Below.heap_setCell W ⟨e, i, none⟩ u k hk
  exact ⟨hs, ⟨cs, t, fr, hs.trans h1⟩, h2, h3, v, (Below.heap_setCell W ⟨e, i, none⟩ u Bx hne).trans h4, h5⟩
/-- The out list's box and row behind one append. -/
theorem row_step35 {w W w1 : World} {Ex : Nat → Prop} {Bx : Nat} {v v1 : Value} {xs ys : List S35} (hv : W.heap[Bx]? = some (.cells #[v] 32 (0, 0))) (hR : k35.R 35 W w.heap.size (fun _ => True) v xs)
    (hB : Below w.heap.size w W) (ho : k35.R 35 w1 w.heap.size (fun _ => True) v1 ys) (hg : W.grownBy w1 v.ownBlock)
    (hat : v1.ownBlock = v.ownBlock ∨ ∃ b, v1.ownBlock = some b ∧ W.heap.size ≤ b) (hx : w.heap.size ≤ Bx) :
    KeepsOthers W (w1.setCell ⟨Bx, 0, none⟩ v1) ∧ KpB Ex Bx 32 W (w1.setCell ⟨Bx, 0, none⟩ v1) ∧ (w1.setCell ⟨Bx, 0, none⟩ v1).heap[Bx]? = some (.cells #[v1] 32 (0, 0)) ∧
      k35.R 35 (w1.setCell ⟨Bx, 0, none⟩ v1) w.heap.size (fun _ => True) v1 ys ∧ (∀ (k : Nat) (cs : Array Value) (tt : TypeId) (fr : Nat × Nat), k ≠ Bx → tt ≠ 35 → W.heap[k]? = some (.cells cs tt fr) → (w1.setCell ⟨Bx, 0, none⟩ v1).heap[k]? = some (.cells cs tt fr)) ∧ Below w.heap.size w (w1.setCell ⟨Bx, 0, none⟩ v1) := by
  have hn := R35_nebox hR hv (by decide)
  have hv1 : w1.heap[Bx]? = some (.cells #[v] 32 (0, 0)) := blk_grown hv hg (fun e => hn e.symm)
  have hset : (w1.setCell ⟨Bx, 0, none⟩ v1).heap[Bx]? = some (.cells #[v1] 32 (0, 0)) := blk_put hv1 0 v1 rfl
  have hn1 := R35_nebox ho hv1 (by decide)
  have hk : KeepsOthers W w1 := KeepsOthers.of_row hg (fun r hr => by obtain ⟨_, cs, fr, hc⟩ := R35_cells hR r hr; exact ⟨cs, _, fr, hc⟩)
  have hB1 : Below w.heap.size w w1 := hB.trans ⟨hg.os, hg.tape, hg.output, hg.size, fun i hi => hg.block i (Nat.lt_of_lt_of_le hi hB.size) (fun e => by have := (R35_cells hR i e.symm).1; omega)⟩
  refine ⟨hk.trans (KeepsOthers.setCell _ _ _), fun k hs => ?_, hset, R35_same ho (fun k hk2 => Below.heap_setCell w1 ⟨Bx, 0, none⟩ v1 k (fun e => hn1 (by rw [hk2]; exact congrArg some e))), fun k cs tt fr hne htt hc => (Below.heap_setCell w1 ⟨Bx, 0, none⟩ v1 k hne).trans ((hg.block k (blk_lt hc) (fun e => R35_nebox hR hc htt e.symm)).trans hc), below_set hB1 hx⟩
  obtain ⟨⟨cs, t, fr, h1⟩, h2, h3', v', h4, h5⟩ := hs
  rw [hv] at h4
  injection h4 with h4
  injection h4 with h4
  have hvv : v = v' := by simpa using h4
  subst hvv
  have hsame : (w1.setCell ⟨Bx, 0, none⟩ v1).heap[k]? = W.heap[k]? := (Below.heap_setCell w1 ⟨Bx, 0, none⟩ v1 k h3').trans (hg.block k (blk_lt h1) (fun e => h5 e.symm))
  refine ⟨hsame, ⟨cs, t, fr, hsame.trans h1⟩, h2, h3', v1, hset, fun e => ?_⟩
  rcases hat with hat | ⟨b, hb1, hb2⟩
  · exact h5 (hat ▸ e)
  · rw [hb1] at e
    injection e with e
    have := blk_lt h1
    omega
theorem lt_deep {t : List Int} {deep : Int} {p n k : Nat} : k < deepN t deep p n ↔ ((k : Int) < deep ∧ p + k < t.length ∧ n + k < 96) := by unfold deepN; omega
set_option maxRecDepth 100000 in
set_option maxHeartbeats 4000000 in
theorem propose_calls {t pl : List Int} {ways deep : Int} (w : World) (q : Option Addr) (hin : ∀ W, Below w.heap.size w W → Calls Try.prog 39 #[.pointer q] W fun e w' => ∃ v, e = .returned v ∧ Kd.R (Kd.int .i64) 3 w' W.heap.size (fun _ => True) v pl ∧ Below W.heap.size W w')
    (hpl : ∀ x ∈ pl, ∃ p : Nat, x = p ∧ p ≤ t.length) (hq : RecvOk w q t pl) (hways : ways ≤ 9223372036854775807) (hpt : t.length ≤ 17592186044416) :
    Calls Try.prog 18 #[.pointer q, .int .i64 ways, .int .i64 deep] w fun e w' => ∃ v, e = .returned v ∧ k35.R 35 w' w.heap.size (fun _ => True) v (proposeL t deep (pl.reverse.take ways.toNat)) ∧ Below w.heap.size w w' := by
  refine (callsIn_wide (n := 5)).1 ?_
  refine callsIn_of_wp_marks Try.func18 rfl trivial ?_ rfl
  simp only [Try.ntmps18, List.size_toArray, List.length_cons, List.length_nil, Nat.reduceAdd, Nat.reduceSub, Array.replicate_succ, Array.replicate_zero, List.push_toArray, List.append_toArray, List.nil_append, List.cons_append]
  gi_wp2_with (refine ⟨trivial, ?_⟩; gi_at_call 35; refine (places_fn _ (.pointer q) ⟨q, rfl⟩ _).mono ?_; rintro e w' ⟨rfl, rfl⟩)
  obtain ⟨W0, hW0⟩ : ∃ W0, ((((w.alloc (.cells #[.pointer q] 25)).alloc (.cells #[.int .i64 ways] 3)).alloc (.cells #[.int .i64 deep] 3)).alloc (.cells #[.slice none 0 0] 32)).alloc (.cells #[.pointer q] 25) = W0 := ⟨_, rfl⟩
  have b0 : W0.heap[w.heap.size]? = some (.cells #[.pointer q] 25 (0, 0)) := by rw [← hW0]; exact blk_alloc (blk_alloc (blk_alloc (blk_alloc (blk_new w _) _) _) _) _
  have b1 : W0.heap[w.heap.size + 1]? = some (.cells #[.int .i64 ways] 3 (0, 0)) := by
    rw [← hW0]
    have := blk_new (w.alloc (.cells #[.pointer q] 25)) (.cells #[.int .i64 ways] 3)
    rw [World.size_alloc] at this
    exact blk_alloc (blk_alloc (blk_alloc this _) _) _
  have b2 : W0.heap[w.heap.size + 1 + 1]? = some (.cells #[.int .i64 deep] 3 (0, 0)) := by
    rw [← hW0]
    have := blk_new ((w.alloc (.cells #[.pointer q] 25)).alloc (.cells #[.int .i64 ways] 3)) (.cells #[.int .i64 deep] 3)
    rw [World.size_alloc, World.size_alloc] at this
    exact blk_alloc (blk_alloc this _) _
  have b3 : W0.heap[w.heap.size + 1 + 1 + 1]? = some (.cells #[.slice none 0 0] 32 (0, 0)) := by
    rw [← hW0]
    have := blk_new (((w.alloc (.cells #[.pointer q] 25)).alloc (.cells #[.int .i64 ways] 3)).alloc (.cells #[.int .i64 deep] 3)) (.cells #[.slice none 0 0] 32)
    rw [World.size_alloc, World.size_alloc, World.size_alloc] at this
    exact blk_alloc this _
  have b4 : W0.heap[w.heap.size + 1 + 1 + 1 + 1]? = some (.cells #[.pointer q] 25 (0, 0)) := by
    rw [← hW0]
    have := blk_new ((((w.alloc (.cells #[.pointer q] 25)).alloc (.cells #[.int .i64 ways] 3)).alloc (.cells #[.int .i64 deep] 3)).alloc (.cells #[.slice none 0 0] 32)) (.cells #[.pointer q] 25)
    rw [World.size_alloc, World.size_alloc, World.size_alloc, World.size_alloc] at this
    exact this
  have hB0 : Below w.heap.size w W0 := by rw [← hW0]; exact below_alloc (below_alloc (below_alloc (below_alloc (below_alloc (Below.refl _ _) _) _) _) _) _
  have hsz : W0.heap.size = w.heap.size + 1 + 1 + 1 + 1 + 1 := by rw [← hW0, World.size_alloc, World.size_alloc, World.size_alloc, World.size_alloc, World.size_alloc]
  rw [hW0]
  obtain ⟨L, hL⟩ : ∃ L, t.length = L := ⟨_, rfl⟩
  have hseq : SeqStopsK Fence.wide (5 - 1) Try.prog 38 #[.pointer (some ⟨w.heap.size + 1 + 1 + 1 + 1, 0, none⟩)] (fun x : Pl L => #[Value.int .i64 x.1]) (KpB (fun i => i = w.heap.size + 1) (w.heap.size + 1 + 1 + 1) 32) (fun ys => ys.map (·.1) = pl.reverse) (fun pre => pre.map (·.1) <+: pl.reverse) pl.length W0 :=
    fun l J Jx W hW hJ hJx hY h0 => places_pl (by omega) (SafeB (fun i => i = w.heap.size + 1) (w.heap.size + 1 + 1 + 1) 32) (by rw [← hL]; exact hpl) (fun k W1 W' hs hk => hk k hs) (fun pre x W1 hj hl => hY pre x W1 hj hl)
      (fun W2 k cs fr hb hk hc => ⟨⟨cs, 3, fr, hc⟩, fun h => by have := hW.size; omega, by have := hW.size; omega, .slice none 0 0, blk_below (blk_below b3 hW) hb, fun e => by cases e⟩)
      ((blk_cell (blk_below b4 hW) 0).trans rfl) ⟨q, rfl⟩ (hin W (hB0.trans (hW.mono hB0.size))) hJ h0
  have HQ := Lib.hid hq
  have HL := Lib.hid hL
  clear hin hW0 hq hL hpl
  refine wpIn_rangeFunc_ownF rfl (by omega) (gf := 38) (lb := #[.pointer (some ⟨w.heap.size + 1 + 1 + 1 + 1, 0, none⟩)]) rfl trivial (enters_of Try.func38 (by kernel_rfl) rfl)
    hseq (fun h k => h.trans k) (fun W l o o' _ h hc _ => KpB.putObj W l o o' h hc) (Below.refl _ _) (fun _ => rfl)
    (fun pre W => PrI w q ways deep t L pre W ∧ Below w.heap.size w W)
    (fun c pre W => PrIx w ways deep t L c pre W ∧ Below w.heap.size w W)
    (OwnFrom.and (Own.from (prI_own w q ways deep t L) _) (ownFrom_below (Nat.le_refl _) (by omega)))
    (fun c => OwnFrom.and (Own.from (prIx_own w ways deep t L c) _) (ownFrom_below (Nat.le_refl _) (by omega)))
    ⟨⟨⟨⟨.slice none 0 0, b3, Kd.R_nil _ _ _ _ _⟩, b0, by simpa using b1, b2⟩, Nat.zero_le _⟩, hB0⟩
    (fun x => { tmps := #[.pointer q, .int .i64 ways, .int .i64 deep, .pointer (some ⟨w.heap.size, 0, none⟩), .pointer (some ⟨w.heap.size + 1, 0, none⟩), .pointer (some ⟨w.heap.size + 1 + 1, 0, none⟩), .slice none 0 0, .pointer (some ⟨w.heap.size + 1 + 1 + 1, 0, none⟩), .int .i64 x.1, undef, undef, .pointer q, .func (.func 38) #[] #[.pointer (some ⟨w.heap.size + 1 + 1 + 1 + 1, 0, none⟩)], .int .i64 x.1, undef, undef, undef, undef, undef, undef, undef, undef, undef, undef, undef, undef, undef, undef, undef, undef, undef, undef, undef, undef, undef, undef, undef, undef, undef, undef, undef, undef, undef, undef, undef, undef, undef, undef, undef, undef, undef, undef, undef, undef, undef, undef, undef], defers := [] }) ?assign ?body ?done ?stop
  case assign =>
    intro l x W K hK
    gi_wp2
    exact hK
  case body =>
    rintro l pre ⟨x, p, rfl, hp⟩ W ⟨⟨⟨⟨v, hv, hR⟩, hb0, hb1, hb2⟩, hpre⟩, hB⟩ hlen
    obtain ⟨out, hout⟩ : ∃ out, proposeL t deep (pre.map (·.1)) = out := ⟨_, rfl⟩
    obtain ⟨u, hu⟩ : ∃ u, ways - (pre.length : Int) = u := ⟨_, rfl⟩
    rw [hu] at hb1
    rw [hout] at hR
    have kw : W.cell? ⟨w.heap.size + 1, 0, none⟩ = some (.int .i64 u) := (blk_cell hb1 0).trans rfl
    have fw := blk_frozen hb1 0
    have HV := Lib.hid hv
    have HR := Lib.hid hR
    have HB0 := Lib.hid hb0
    have HB1 := Lib.hid hb1
    have HB2 := Lib.hid hb2
    have HB := Lib.hid hB
    have HOUT := Lib.hid hout
    have HU := Lib.hid hu
    have HPRE := Lib.hid hpre
    have HLEN := Lib.hid hlen
    clear hv hR hb0 hb1 hb2 hB hout hu hpre hlen hseq b0 b1 b2 b3 b4 hB0 hsz
    by_cases hw : u < 1
    · have hd : decide (u < 1) = true := decide_eq_true hw
      gi_wp2
      exact ⟨KeepsOthers.refl _, ⟨⟨rfl, pre, _, rfl, by have := HU.out; have := HPRE.out; omega, _, HV.out, by rw [HOUT.out]; exact HR.out⟩, HB.out⟩⟩
    · have hd : decide (u < 1) = false := decide_eq_false hw
      have hu1 : 1 ≤ u := by omega
      have hu2 : u ≤ 9223372036854775807 := by have := HU.out; omega
      clear hw
      gi_wp2
      obtain ⟨N0, hN0⟩ : ∃ N0, out.length = N0 := ⟨_, rfl⟩
      obtain ⟨m, hm⟩ : ∃ m, deepN t deep p N0 = m := ⟨_, rfl⟩
      have HN0 := Lib.hid hN0
      have HM := Lib.hid hm
      clear hN0 hm kw fw hd
      gi_loopw [9, 10] (fun x y wr => PrL w q (u - 1) deep t out p m W x y wr) (fun _ y _ => m - (intOf y).toNat)
      case atStart =>
        have hn := R35_nebox HR.out HB1.out (by decide)
        exact ⟨0, rfl, Nat.zero_le _, rfl, ⟨⟨v, (Below.heap_setCell W ⟨w.heap.size + 1, 0, none⟩ _ (w.heap.size + 1 + 1 + 1) (by show _ ≠ w.heap.size + 1; omega)).trans HV.out, by rw [chainN_zero]; exact R35_same HR.out (fun k hk => Below.heap_setCell W ⟨w.heap.size + 1, 0, none⟩ _ k (fun e => hn (by rw [hk]; exact congrArg some e)))⟩,
          (Below.heap_setCell W ⟨w.heap.size + 1, 0, none⟩ _ w.heap.size (by show _ ≠ w.heap.size + 1; omega)).trans HB0.out, blk_put HB1.out 0 _ rfl, (Below.heap_setCell W ⟨w.heap.size + 1, 0, none⟩ _ (w.heap.size + 1 + 1) (by show _ ≠ w.heap.size + 1; omega)).trans HB2.out⟩,
          KeepsOthers.setCell _ _ _, KpB.setEx W _ _ _ rfl (by omega), below_set HB.out (by show _ ≤ w.heap.size + 1; omega)⟩
      case round =>
        obtain ⟨k, rfl, hk, rfl, ⟨⟨vo, ho, hRo⟩, hb0, hb1, hb2⟩, hkeep, hkp, hB⟩ := hrel
        rename World => wr
        have kd : wr.cell? ⟨w.heap.size + 1 + 1, 0, none⟩ = some (.int .i64 deep) := (blk_cell hb2 0).trans rfl
        have kq : wr.cell? ⟨w.heap.size, 0, none⟩ = some (.pointer q) := (blk_cell hb0 0).trans rfl
        obtain ⟨PAR, hPAR⟩ : ∃ PAR, (if k = 0 then -1 else (out.length : Int) + k - 1) = PAR := ⟨_, rfl⟩
        rw [hPAR]
        obtain ⟨B, mm, most, At0, ct, hq, hbB, hC, hct⟩ := HQ.out (fun e => by have := HLEN.out; rw [e] at this; simp at this)
        rw [hq] at kq
        have kt : wr.cell? ⟨B, 1, none⟩ = some (.slice At0 L ct) := by rw [← HL.out]; exact (blk_cell (blk_below hbB hB) 1).trans rfl
        obtain ⟨Ao, co, eo, hco, hCo⟩ := Kd.R_reads hRo
        rw [chainN_length, HN0.out] at eo hco
        subst eo
        have ko : wr.cell? ⟨w.heap.size + 1 + 1 + 1, 0, none⟩ = some (.slice Ao (N0 + k) co) := (blk_cell ho 0).trans rfl
        have kf : wr.frozen? ⟨w.heap.size + 1 + 1 + 1, 0, none⟩ = false := blk_frozen ho 0
        have HO := Lib.hid ho
        have HRO := Lib.hid hRo
        have HBB0 := Lib.hid hb0
        have HBB1 := Lib.hid hb1
        have HBB2 := Lib.hid hb2
        have HKEEP := Lib.hid hkeep
        have HKP := Lib.hid hkp
        have HBW := Lib.hid hB
        have HPAR := Lib.hid hPAR
        have HC := Lib.hid hC
        have HBL := Lib.hid (blk_lt hbB)
        have HBB := Lib.hid (blk_below hbB hB)
        have HQE := Lib.hid hq
        clear ho hRo hb0 hb1 hb2 hkeep hkp hB hPAR hC hct hbB hco hCo hq
        have HPL : Hid (p ≤ 17592186044416) := Lib.hid (by have := HL.out; omega)
        by_cases hkm : k < m
        · have hlt : k < deepN t deep p N0 := by rw [HM.out]; exact hkm
          obtain ⟨h1, h2, h3⟩ := lt_deep.1 hlt
          rw [HL.out] at h2
          have d1 : decide ((k : Int) < deep) = true := decide_eq_true h1
          have d2 : decide ((p : Int) + (k : Int) < (L : Int)) = true := decide_eq_true (by omega)
          have d3 : decide ((N0 : Int) + (k : Int) < 96) = true := decide_eq_true (by omega)
          have q1 : (0 : Int) ≤ (p : Int) + (k : Int) := by omega
          have q2 : (p : Int) + (k : Int) < (L : Int) := by omega
          have hL' : (L : Int) ≤ 17592186044416 := by have := HL.out; omega
          gi_wp2
          obtain ⟨At, e1, ky0⟩ := Kd.at_int HC.out ((p : Int) + (k : Int)) q1 (by rw [HL.out]; exact q2)
          subst e1
          have ht : ((p : Int) + (k : Int)).toNat = p + k := by omega
          rw [ht] at ky0
          obtain ⟨y, hy⟩ : ∃ y, rd t ((p : Int) + (k : Int)) = y := ⟨_, rfl⟩
          rw [hy] at ky0
          have hAL : At.block < w.heap.size := by have := World.block_lt_of_cell? w _ ky0; rwa [add_block] at this
          have ky : wr.cell? (At.add (p + k)) = some (.int .i64 y) := (HBW.out.cell (p := At.add (p + k)) (by rw [add_block]; exact hAL)).trans ky0
          have HY : Hid (nth t (p + k) = y) := Lib.hid (by rw [← hy, ← rd_nth]; rfl)
          have HRD := Lib.hid (Kd.R_drew HRO.out)
          have HBD : Hid (Below w.heap.size w wr.drew) := Lib.hid (below_drew HBW.out)
          have HSZ : Hid (w.heap.size ≤ wr.drew.heap.size) := Lib.hid HBW.out.size
          have HLE : Hid (((chainN t p out k).length + 1) * 16 ≤ 140737488355328) := Lib.hid (by rw [chainN_length, HN0.out]; omega)
          have HAL := Lib.hid hAL
          have KY := Lib.hid ky
          have STEP : Hid (∀ v1 w1, k35.R 35 w1 w.heap.size (fun _ => True) v1 (chainN t p out k ++ [⟨PAR, y⟩]) → wr.drew.grownBy w1 (Value.slice Ao (N0 + k) co).ownBlock → (v1.ownBlock = (Value.slice Ao (N0 + k) co).ownBlock ∨ ∃ b, v1.ownBlock = some b ∧ wr.drew.heap.size ≤ b) →
              ∃ A1 c1, v1 = .slice A1 (N0 + k + 1) c1 ∧ w1.cell? ⟨w.heap.size + 1 + 1 + 1, 0, none⟩ = some (.slice Ao (N0 + k) co) ∧ w1.frozen? ⟨w.heap.size + 1 + 1 + 1, 0, none⟩ = false ∧ w1.cell? ⟨w.heap.size, 0, none⟩ = some (.pointer (some ⟨B, 0, none⟩)) ∧ w1.cell? ⟨B, 1, none⟩ = some (.slice (some At) L ct) ∧ w1.cell? (At.add (p + k)) = some (.int .i64 y) ∧
                (KeepsOthers W (w1.setCell ⟨w.heap.size + 1 + 1 + 1, 0, none⟩ v1) ∧ KpB (fun i => i = w.heap.size + 1) (w.heap.size + 1 + 1 + 1) 32 W (w1.setCell ⟨w.heap.size + 1 + 1 + 1, 0, none⟩ v1) ∧ PrB w q (u - 1) deep (chainN t p out (k + 1)) (w1.setCell ⟨w.heap.size + 1 + 1 + 1, 0, none⟩ v1) ∧ Below w.heap.size w (w1.setCell ⟨w.heap.size + 1 + 1 + 1, 0, none⟩ v1) ∧ (w1.setCell ⟨w.heap.size + 1 + 1 + 1, 0, none⟩ v1).cell? ⟨w.heap.size + 1 + 1 + 1, 0, none⟩ = some v1)) := Lib.hid (fun v1 w1 ho hg hat => by
            have hne := Kd.R_base HRO.out
            have hold : ∀ b, b < w.heap.size → some b ≠ (Value.slice Ao (N0 + k) co).ownBlock := fun b hb e => by have := hne b e.symm; omega
            obtain ⟨A1, c1, e1, hc1, hC1⟩ := Kd.R_reads ho
            rw [List.length_append, List.length_singleton, chainN_length, HN0.out] at e1
            obtain ⟨s1, s2, s3, s4, s5, s6⟩ := row_step35 (Ex := fun i => i = w.heap.size + 1) (W := wr.drew) HO.out HRD.out HBD.out ho hg hat (by omega)
            have hnb := R35_nebox HRO.out HO.out (by decide)
            have hnq := R35_nebox HRO.out HBB0.out (by decide)
            refine ⟨A1, c1, e1, (blk_cell (blk_grown (w := wr.drew) HO.out hg (fun e => hnb e.symm)) 0).trans rfl, blk_frozen (blk_grown (w := wr.drew) HO.out hg (fun e => hnb e.symm)) 0, ?_, ?_, cell_grown hg KY.out (by rw [add_block]; exact hold _ HAL.out), (HKEEP.out.trans (KeepsOthers.drew _)).trans s1, (HKP.out.trans (fun k h => ⟨rfl, h⟩)).trans s2, ⟨⟨v1, s3, ?_⟩, s5 _ _ _ _ (by omega) (by decide) HBB0.out, s5 _ _ _ _ (by omega) (by decide) HBB1.out, s5 _ _ _ _ (by omega) (by decide) HBB2.out⟩, s6, (blk_cell s3 0).trans rfl⟩
            · rw [← HQE.out]; exact (blk_cell (blk_grown (w := wr.drew) HBB0.out hg (fun e => hnq e.symm)) 0).trans rfl
            · rw [← HL.out]; exact (blk_cell (blk_grown (w := wr.drew) HBB.out hg (fun e => hold _ HBL.out e)) 1).trans rfl
            · rw [chainN_succ, HY.out, HPAR.out]; exact s4)
          have hws : wrap64 ((p : Int) + (k : Int)) = (p : Int) + (k : Int) := IntWalk.wrap64_in _ (by omega)
          clear hy ky0 hAL ky
          have ky : wr.cell? (At.add (p + k)) = some (.int .i64 y) := KY.out
          refine startIn_ (n := 15) (S := fun w' => w'.cell? ⟨w.heap.size + 1 + 1 + 1, 0, none⟩ = some (.slice Ao (N0 + k) co) ∧ w'.cell? ⟨w.heap.size, 0, none⟩ = some (.pointer (some ⟨B, 0, none⟩)) ∧ w'.cell? ⟨B, 1, none⟩ = some (.slice (some At) L ct) ∧ w'.cell? (At.add (p + k)) = some (.int .i64 y)) (ds := [14]) #[false, false, false, false, false, false, false, false, false, false, false, false, false, false, false] (by kernel_rfl) rfl rfl (by kernel_rfl) (fun ⟨_, _, h⟩ => h) ⟨ko, kq, kt, ky⟩ (fun hHeld => ?_)
          refine pure_ (i := 1) (N := some 40) (v := ?_) (a' := ?_) #[false, true, false, false, false, false, false, false, false, false, false, false, false, false, false] rfl rfl (by kernel_rfl) (fun _ _ _ h => h) (Or.inl ⟨by rfl, ?_⟩) ?_ ?_
          rotate_left
          · intro w'
            go_simp
            with_reducible rfl
          rotate_left
          · simp only [Act.put, List.setIfInBounds_toArray, List.set_cons_zero, List.set_cons_succ, i64_w, i32_w]
            rfl
          refine pure_ (i := 6) (N := some 45) (v := ?_) (a' := ?_) #[false, true, false, false, false, false, true, false, false, false, false, false, false, false, false] rfl rfl (by kernel_rfl) (fun _ _ _ h => h) (Or.inl ⟨by rfl, ?_⟩) ?_ ?_
          rotate_left
          · intro w'
            go_simp
            with_reducible rfl
          rotate_left
          · simp only [Act.put, List.setIfInBounds_toArray, List.set_cons_zero, List.set_cons_succ, i64_w, i32_w]
            rfl
          refine pure_ (i := 7) (N := some 46) (v := ?_) (a' := ?_) #[false, true, false, false, false, false, true, true, false, false, false, false, false, false, false] rfl rfl (by kernel_rfl) (fun _ _ _ h => h) (Or.inl ⟨by rfl, ?_⟩) ?_ ?_
          rotate_left
          · intro w'
            go_simp
            with_reducible rfl
          rotate_left
          · simp only [Act.put, List.setIfInBounds_toArray, List.set_cons_zero, List.set_cons_succ, i64_w, i32_w]
            rfl
          refine pure_ (i := 8) (N := some 47) (v := ?_) (a' := ?_) #[false, true, false, false, false, false, true, true, true, false, false, false, false, false, false] rfl rfl (by kernel_rfl) (fun _ _ _ h => h) (Or.inl ⟨by rfl, ?_⟩) ?_ ?_
          rotate_left
          · intro w'
            go_simp
            with_reducible rfl
          rotate_left
          · simp only [Act.put, List.setIfInBounds_toArray, List.set_cons_zero, List.set_cons_succ, i64_w, i32_w]
            rfl
          refine take_ (i := 0) (N := some 39) (v := ?_) (a' := ?_) #[true, true, false, false, false, false, true, true, true, false, false, false, false, false, false] rfl rfl (by kernel_rfl) (fun _ _ _ h => h) (Or.inl ⟨by rfl, ?_⟩) hHeld ?_ ?_
          rotate_left
          · rintro w' ⟨s0, s1, s2, s3⟩
            go_simp
            with_reducible rfl
          rotate_left
          · simp only [Act.put, List.setIfInBounds_toArray, List.set_cons_zero, List.set_cons_succ, i64_w, i32_w]
            rfl
          refine take_ (i := 2) (N := some 41) (v := ?_) (a' := ?_) #[true, true, true, false, false, false, true, true, true, false, false, false, false, false, false] rfl rfl (by kernel_rfl) (fun _ _ _ h => h) (Or.inl ⟨by rfl, ?_⟩) hHeld ?_ ?_
          rotate_left
          · rintro w' ⟨s0, s1, s2, s3⟩
            go_simp
            with_reducible rfl
          rotate_left
          · simp only [Act.put, List.setIfInBounds_toArray, List.set_cons_zero, List.set_cons_succ, i64_w, i32_w]
            rfl
          refine pure_ (i := 3) (N := some 42) (v := ?_) (a' := ?_) #[true, true, true, true, false, false, true, true, true, false, false, false, false, false, false] rfl rfl (by kernel_rfl) (fun _ _ _ h => h) (Or.inl ⟨by rfl, ?_⟩) ?_ ?_
          rotate_left
          · intro w'
            go_simp
            with_reducible rfl
          rotate_left
          · simp only [Act.put, List.setIfInBounds_toArray, List.set_cons_zero, List.set_cons_succ, i64_w, i32_w]
            rfl
          refine pure_ (i := 4) (N := some 43) (v := ?_) (a' := ?_) #[true, true, true, true, true, false, true, true, true, false, false, false, false, false, false] rfl rfl (by kernel_rfl) (fun _ _ _ h => h) (Or.inl ⟨by rfl, ?_⟩) ?_ ?_
          rotate_left
          · intro w'
            go_simp
            with_reducible rfl
          rotate_left
          · simp only [Act.put, List.setIfInBounds_toArray, List.set_cons_zero, List.set_cons_succ, i64_w, i32_w]
            rfl
          refine take_ (i := 5) (N := some 44) (v := ?_) (a' := ?_) #[true, true, true, true, true, true, true, true, true, false, false, false, false, false, false] rfl rfl (by kernel_rfl) (fun _ _ _ h => h) (Or.inl ⟨by rfl, ?_⟩) hHeld ?_ ?_
          rotate_left
          · rintro w' ⟨s0, s1, s2, s3⟩
            go_simp
            with_reducible rfl
          rotate_left
          · simp only [Act.put, List.setIfInBounds_toArray, List.set_cons_zero, List.set_cons_succ, i64_w, i32_w]
            rfl
          refine pure_ (i := 9) (N := some 48) (v := ?_) (a' := ?_) #[true, true, true, true, true, true, true, true, true, true, false, false, false, false, false] rfl rfl (by kernel_rfl) (fun _ _ _ h => h) (Or.inl ⟨by rfl, ?_⟩) ?_ ?_
          rotate_left
          · intro w'
            go_simp
            with_reducible rfl
          rotate_left
          · simp only [Act.put, List.setIfInBounds_toArray, List.set_cons_zero, List.set_cons_succ, i64_w, i32_w]
            rfl
          refine take_ (i := 10) (N := some 49) (v := ?_) (a' := ?_) #[true, true, true, true, true, true, true, true, true, true, true, false, false, false, false] rfl rfl (by kernel_rfl) (fun _ _ _ h => h) (Or.inl ⟨by rfl, ?_⟩) hHeld ?_ ?_
          rotate_left
          · rintro w' ⟨s0, s1, s2, s3⟩
            go_simp
            with_reducible rfl
          rotate_left
          · simp only [Act.put, List.setIfInBounds_toArray, List.set_cons_zero, List.set_cons_succ, i64_w, i32_w]
            rfl
          refine pure_ (i := 11) (N := some 50) (v := ?_) (a' := ?_) #[true, true, true, true, true, true, true, true, true, true, true, true, false, false, false] rfl rfl (by kernel_rfl) (fun _ _ _ h => h) (Or.inl ⟨by rfl, ?_⟩) ?_ ?_
          rotate_left
          · intro w'
            go_simp
            with_reducible rfl
          rotate_left
          · simp only [Act.put, List.setIfInBounds_toArray, List.set_cons_zero, List.set_cons_succ, i64_w, i32_w]
            rfl
          refine one_ (i := 12) (N := some 51) #[true, true, true, true, true, true, true, true, true, true, true, true, true, false, false] rfl rfl (by kernel_rfl) (by decide) (fun K hK => ?_)
          refine value_ (w1 := ?_) (v := ?_) (by rfl) rfl ?_ ?_
          rotate_left 2
          · go_simp
            constructor
            · rfl
            · rfl
          refine hK.out _ _ ⟨pw_cell_below (below_alloc (Below.refl wr.drew.heap.size wr.drew) _) ko, pw_cell_below (below_alloc (Below.refl wr.drew.heap.size wr.drew) _) kq, pw_cell_below (below_alloc (Below.refl wr.drew.heap.size wr.drew) _) kt, pw_cell_below (below_alloc (Below.refl wr.drew.heap.size wr.drew) _) ky⟩ (fun hHeld => ?_)
          clear hK K
          refine norm_ (a' := ?_) ?_ ?_
          rotate_left
          · show Act.put _ (some 51) _ = _
            simp only [Act.put, List.setIfInBounds_toArray, List.set_cons_zero, List.set_cons_succ, i64_w, i32_w]
            rfl
          refine one_ (i := 13) (N := some 52) #[true, true, true, true, true, true, true, true, true, true, true, true, true, true, false] rfl rfl (by kernel_rfl) (by decide) (fun K hK => ?_)
          refine Kd.R_append_step (P := Try.prog) (Kc := K) k35 (w0 := w) (W := wr.drew) w.heap.size ?c1 (.tmp 39) (.tmp 51) 32 35 (.agg #[.int .i64 0, .int .i64 0]) 16 rfl Try.underlying32 info35 rfl (by decide) (by omega) (.slice Ao (N0 + k) co) (chainN t p out k) ⟨PAR, y⟩ [.int .i64 PAR, .int .i64 y] (fun _ => True) (fun _ => False) rfl rfl (k35_mkM _ _ _ _) (fun _ h => h.elim) (fun _ _ => trivial) HRD.out HBD.out HSZ.out HLE.out ?c2
          case c1 => rfl
          intro v1 w1 ho hb hg hat
          obtain ⟨A1, c1, rfl, ko1, kf1, kq1, kt1, ky1, hst⟩ := STEP.out v1 w1 ho hg hat
          have HST := Lib.hid hst
          clear ho hb hg hat hst
          refine hK.out _ _ ⟨ko1, kq1, kt1, ky1⟩ (fun hHeld => ?_)
          clear hK K
          refine norm_ (a' := ?_) ?_ ?_
          rotate_left
          · show Act.put _ (some 52) _ = _
            simp only [Act.put, List.setIfInBounds_toArray, List.set_cons_zero, List.set_cons_succ, i64_w, i32_w]
            rfl
          refine last_ (i := 14) (N := none) #[true, true, true, true, true, true, true, true, true, true, true, true, true, true, true] rfl rfl (by kernel_rfl) (by decide) (fun K hK => ?_)
          refine skip_ (w1 := ?_) (by rfl) rfl ?_ ?_
          rotate_left
          · go_simp
            rfl
          refine hK.out _ _ ?_
          clear hK K
          refine done_ (by kernel_rfl) ?_
          obtain ⟨wx, hwx⟩ : ∃ wx, w1.setCell ⟨w.heap.size + 1 + 1 + 1, 0, none⟩ (.slice A1 (N0 + k + 1) c1) = wx := ⟨_, rfl⟩
          have hst := HST.out
          rw [hwx] at hst ⊢
          obtain ⟨s1, s2, s3, s4, kx⟩ := hst
          have S1 := Lib.hid s1
          have S2 := Lib.hid s2
          have S3 := Lib.hid s3
          have S4 := Lib.hid s4
          have HN1 : Hid (k < m) := Lib.hid hkm
          have h96 : (N0 : Int) + (k : Int) < 96 := by omega
          clear s1 s2 s3 s4 hwx ko1 kf1 kq1 kt1 ky1 hHeld hws ht ky kt kq ko kf kd HST STEP d1 d2 d3 hlt q1 q2
          gi_wp2
          exact ⟨⟨k + 1, rfl, HN1.out, by rw [if_neg (by omega), HN0.out]; congr 1; omega, S3.out, S1.out, S2.out, S4.out⟩, by have := HN1.out; simp [intOf]; omega⟩
        · have HEND : Hid (PrI w q ways deep t L (pre ++ [⟨(p : Int), p, rfl, hp⟩]) wr ∧ Below w.heap.size w wr) := Lib.hid (by
            obtain rfl : k = m := by omega
            refine ⟨⟨?_, ?_⟩, HBW.out⟩
            · rw [List.map_append, List.map_cons, List.map_nil, proposeL_snoc, HOUT.out, List.length_append, List.length_singleton, show ways - ((pre.length + 1 : Nat) : Int) = u - 1 by have := HU.out; omega]
              refine ⟨⟨_, HO.out, ?_⟩, HBB0.out, HBB1.out, HBB2.out⟩
              have := HRO.out
              unfold chain
              rw [Int.toNat_natCast, HN0.out, HM.out]
              exact this
            · rw [List.length_append, List.length_singleton]
              have := HU.out
              omega)
          have hL' : (L : Int) ≤ 17592186044416 := by have := HL.out; omega
          have hpk : (p : Int) + (k : Int) ≤ 17592186044416 + 96 := by have h1 := HM.out; have h2 := HPL.out; unfold deepN at h1; omega
          have HNL : Hid (¬ ((k : Int) < deep ∧ p + k < L ∧ N0 + k < 96)) := Lib.hid (fun h => by
            have := lt_deep.2 (by rw [HL.out]; exact h)
            rw [HM.out] at this
            exact hkm this)
          by_cases c1 : (k : Int) < deep
          · have d1 : decide ((k : Int) < deep) = true := decide_eq_true c1
            by_cases c2 : p + k < L
            · have d2 : decide ((p : Int) + (k : Int) < (L : Int)) = true := decide_eq_true (by omega)
              have d3 : decide ((N0 : Int) + (k : Int) < 96) = false := decide_eq_false (by have := HNL.out; omega)
              clear c1 c2 hkm hk
              gi_wp2
              exact ⟨HKEEP.out, HKP.out, HEND.out⟩
            · have d2 : decide ((p : Int) + (k : Int) < (L : Int)) = false := decide_eq_false (by omega)
              clear c1 c2 hkm hk
              gi_wp2
              exact ⟨HKEEP.out, HKP.out, HEND.out⟩
          · have d1 : decide ((k : Int) < deep) = false := decide_eq_false c1
            clear c1 hkm hk
            gi_wp2
            exact ⟨HKEEP.out, HKP.out, HEND.out⟩
  case done =>
    rintro D ys W hD hys ⟨⟨⟨⟨v, hv, hR⟩, hb0, hb1, hb2⟩, hpre⟩, hB⟩ hK
    have kv : W.cell? ⟨w.heap.size + 1 + 1 + 1, 0, none⟩ = some v := (blk_cell hv 0).trans rfl
    have HR := Lib.hid hR
    have HK := Lib.hid hK
    have HB := Lib.hid hB
    have HYS := Lib.hid hys
    have HP := Lib.hid hpre
    clear hv hR hK hB hb0 hb1 hb2 hys hpre
    gi_wp2
    refine ⟨by simp, .inl ⟨_, _, rfl, run_takeDeferred HK.out, ?_⟩⟩
    refine ⟨_, results_tmp rfl _ _ _, v, rfl, ?_, HB.out.trans (belowK_b (w := w) (Nat.le_refl _) W D _ _ (by omega) HK.out rfl rfl)⟩
    have hr : pl.reverse.take ways.toNat = ys.map (·.1) := by
      rw [← HYS.out]
      exact List.take_of_length_le (by rw [List.length_map]; exact HP.out)
    rw [hr]
    exact R35_same HR.out (fun k hk => by obtain ⟨_, cs, fr, hc⟩ := R35_cells HR.out k hk; exact cells_kept (grownBy_putObj' W D _) (fun r e => by cases e; exact ⟨_, HK.out, rfl⟩) hc)
  case stop =>
    rintro D c pre W hD hpre ⟨⟨rfl, pre0, x, rfl, hlen, v, hv, hR⟩, hB⟩ hK
    have kv : W.cell? ⟨w.heap.size + 1 + 1 + 1, 0, none⟩ = some v := (blk_cell hv 0).trans rfl
    have HR := Lib.hid hR
    have HK := Lib.hid hK
    have HB := Lib.hid hB
    have HPRE := Lib.hid hpre
    have HLEN := Lib.hid hlen
    clear hv hR hK hB hpre hlen
    gi_wp2
    refine ⟨by simp, .inl ⟨_, _, rfl, run_takeDeferred HK.out, ?_⟩⟩
    refine ⟨_, results_tmp rfl _ _ _, v, rfl, ?_, HB.out.trans (belowK_b (w := w) (Nat.le_refl _) W D _ _ (by omega) HK.out rfl rfl)⟩
    have hr : pl.reverse.take ways.toNat = pre0.map (·.1) := by
      have h0 : pre0.map (·.1) <+: pl.reverse := List.IsPrefix.trans (by rw [List.map_append]; exact List.prefix_append _ _) HPRE.out
      have h1 := List.prefix_iff_eq_take.1 h0
      rw [List.length_map, HLEN.out] at h1
      exact h1.symm
    rw [hr]
    exact R35_same HR.out (fun k hk => by obtain ⟨_, cs, fr, hc⟩ := R35_cells HR.out k hk; exact cells_kept (grownBy_putObj' W D _) (fun r e => by cases e; exact ⟨_, HK.out, rfl⟩) hc)
end Go.Proofs.Ytjeofkobefeigaa.Wk
