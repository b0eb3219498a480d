/- The walk of ngram's places: the places of the longest run of the end that stood before. -/
import Derived.Test.YtjeofkobefeigaaAp
import Derived.Deep.RegionHeld3
import Derived.ChangeKeysEq
set_option linter.unusedVariables false
set_option linter.unusedSimpArgs false
namespace Go.Proofs.Ytjeofkobefeigaa.Wk
open Go.RowKit Go.Proofs.YtjeofkobefeigaaW.PrintWords Go.Proofs.YtjeofkobefeigaaW.PrintLast Go.Proofs.YtjeofkobefeigaaW.PrintMore Go.Proofs.Ytjeofkobefeigaa.Mp
open Go.ChangeMaps (setBlock)
attribute [local go_sem] max2_int min2_int max_two min_two

/-- The places of the longest run of at most n tokens of the end, rising. -/
def placesN (t : List Int) : Nat → List Int
  | 0 => []
  | n + 1 => if 1 < (occ t (gramAt t t.length (n + 1))).length then (occ t (gramAt t t.length (n + 1))).take ((occ t (gramAt t t.length (n + 1))).length - 1) else placesN t n
def placesL (most : Nat) (t : List Int) : List Int := placesN t (min most t.length)
theorem IdxE.look {w : World} {F : Nat → Prop} {B m : Nat} {most : Int} {t : List Int} {O : List Int → List Int} {tv : Value} {es : Array MapEntry} {clock : Nat} (h : IdxE w F B m most t O tv es clock) {g : List Int} (hg : Gram g) :
    ∃ v0, (∀ W : World, W.heap[m]? = w.heap[m]? → (Instr.lookup 66 (.map (some m)) (keyG g) false).run Try.prog W = .ok v0 W) ∧ Kd.R (Kd.int .i64) 3 w 0 F v0 (O g) := by
  rcases Mp.look h.map h.ends.keysOk (key_ok hg) with ⟨h1, _⟩ | ⟨j, e0, h1, h2, _⟩
  · refine ⟨.slice none 0 0, fun W hW => ?_, by rw [h.ends.none g hg h1]; exact R_nilA⟩
    rcases Mp.look (hW.trans h.map) h.ends.keysOk (key_ok hg) with ⟨_, h3⟩ | ⟨j, e0, h2, h3, _⟩
    · exact h3
    · exact absurd h3 (h1 e0 (List.mem_of_getElem? h2))
  · obtain ⟨g1, hg1, hk1, hR⟩ := h.ends.row j e0 h1
    have := keyG_inj hg1 hg (hk1.symm.trans h2)
    subst this
    refine ⟨e0.val, fun W hW => ?_, hR⟩
    rcases Mp.look (hW.trans h.map) h.ends.keysOk (key_ok hg) with ⟨h3, _⟩ | ⟨j', e0', h3, h4, h5⟩
    · exact absurd h2 (h3 e0 (List.mem_of_getElem? h1))
    · have hjj : j' = j := by
        obtain ⟨hil, hi2⟩ := List.getElem?_eq_some_iff.1 h3
        obtain ⟨hjl, hj2⟩ := List.getElem?_eq_some_iff.1 h1
        have hp := List.pairwise_iff_getElem.1 h.ends.keys
        have e2 : es.toList[j'].key = es.toList[j].key := by rw [hi2, hj2, h4, h2]
        rcases Nat.lt_trichotomy j' j with c | c | c
        · have := hp j' j (by simpa using hil) (by simpa using hjl) c
          simp only [List.getElem_map] at this
          exact absurd e2 this
        · exact c
        · have := hp j j' (by simpa using hjl) (by simpa using hil) c
          simp only [List.getElem_map] at this
          exact absurd e2.symm this
      subst hjj
      rw [h1] at h3
      rw [Option.some.inj h3]
      exact h5
theorem occ_mem {t g : List Int} {x : Int} (h : x ∈ occ t g) : ∃ q : Nat, x = q ∧ g.length ≤ q ∧ q ≤ t.length ∧ gramAt t q g.length = g := by
  unfold occ at h
  obtain ⟨q, hq, rfl⟩ := List.mem_map.1 h
  obtain ⟨h1, h2⟩ := List.mem_filter.1 hq
  have := List.mem_range.1 h1
  unfold at? at h2
  simp at h2
  exact ⟨q, rfl, h2.1, by omega, h2.2⟩
theorem ahead_same {B m : Nat} {most : Int} {At : Option Addr} {ct : Nat} {t : List Int} (w : World) (hB : w.heap[B]? = some (.cells #[.int .i64 most, .slice At t.length ct, .map (some m)] 68 (0, 0))) (hC : Kd.C (Kd.int .i64) w At t.length t) (hc : t.length ≤ ct)
    {p n : Nat} (h1 : 1 ≤ n) (h4 : n ≤ 4) (hnp : n ≤ p) (hp : p ≤ t.length) {pv nv : Int} (hpv : pv = p) (hnv : nv = n) {g : List Int} (hg : gramAt t p n = g) {v : Value} (hv : v = keyG g) :
    Calls Try.prog 37 #[.pointer (some ⟨B, 0, none⟩), .int .i64 pv, .int .i64 nv] w fun e w' => e = .returned v ∧ Below w.heap.size w w' := by
  subst hpv hnv hv
  refine (ahead_calls w hB hC hc h1 h4 hnp hp).mono ?_
  rintro e w' ⟨rfl, hb⟩
  exact ⟨by rw [key_run hnp hp, hg], hb⟩
theorem eq70 (r0 r1 r2 r3 : Int) (W : World) : (Op.equalIn 10000 70 (.agg #[.int .i64 r0, .int .i64 r1, .int .i64 r2, .int .i64 r3]) (.agg #[.int .i64 r0, .int .i64 r1, .int .i64 r2, .int .i64 r3])).run Try.prog W = .ok true W := by
  obtain ⟨i0, hi0, _⟩ := info_parts info3
  have c3 : Try.prog.cellsOf 3 = 1 := by kernel_rfl
  have hpl : Try.prog.plainKey 3 = true := by kernel_rfl
  have hi : ∀ (d : Nat) (r : Int) (W : World), (Op.equalIn (d + 1) 3 (.int .i64 r) (.int .i64 r)).run Try.prog W = .ok true W := fun d r W => by
    simp [Op.equalIn, run_underlying Try.underlying3, Result.andThen]
  rw [show (10000 : Nat) = 9999 + 1 from rfl, run_equalIn_array W 9999 _ _ Try.underlying70 hi0, c3]
  have p : ∀ (j : Nat) (v : Value), (#[Value.int .i64 r0, .int .i64 r1, .int .i64 r2, .int .i64 r3])[j]? = some v → (part 3 #[.int .i64 r0, .int .i64 r1, .int .i64 r2, .int .i64 r3] j).run Try.prog W = .ok v W := fun j v h => run_part_plain W hpl h
  have p0 := p 0 _ rfl
  have p1 := p 1 _ rfl
  have p2 := p 2 _ rfl
  have p3 := p 3 _ rfl
  simp [List.range, List.range.loop, Op.eqItems, p0, p1, p2, p3, hi 9998, Result.andThen]
theorem field1 (n r0 r1 r2 r3 : Int) (W : World) : (Instr.field 72 (.agg #[.int .i64 n, .int .i64 r0, .int .i64 r1, .int .i64 r2, .int .i64 r3]) 1).run Try.prog W = .ok (.agg #[.int .i64 r0, .int .i64 r1, .int .i64 r2, .int .i64 r3]) W := by
  obtain ⟨i0, hi0, h1, h2, _⟩ := info_parts (P := Try.prog) (e := 70) (z := .agg #[.int .i64 0, .int .i64 0, .int .i64 0, .int .i64 0]) (size := 4) (bytes := 32) (by kernel_rfl)
  simp [Instr.field, run_underlying Try.underlying72, asAgg, part, isAgg, run_underlying Try.underlying70, sizeOf, typeInfo, hi0, h2, Result.andThen]
def P1Rel (w : World) (most : Nat) (t : List Int) (x : Value) (wr : World) : Prop :=
  ∃ n : Nat, x = .int .i64 n ∧ n ≤ most ∧ n ≤ t.length ∧ placesL most t = placesN t n ∧ Below w.heap.size w wr
set_option maxHeartbeats 4000000 in
set_option maxRecDepth 100000 in
theorem inner_calls {F : Nat → Prop} {B m most : Nat} {t : List Int} (w : World) (hI : Idx w F B m most t (ocM most t)) (h4 : most ≤ 4) (ht : ∀ x ∈ t, (Lit.int .i64 x).wf = true) (hl : t.length * 8 ≤ 140737488355328) :
    Calls Try.prog 39 #[.pointer (some ⟨B, 0, none⟩)] w fun e w' => ∃ v, e = .returned v ∧ Kd.R (Kd.int .i64) 3 w' w.heap.size (fun _ => True) v (placesL most t) ∧ Below w.heap.size w w' := by
  obtain ⟨tv, es, clock, hE⟩ := hI.open
  obtain ⟨At, ct, eAt, hct, hCt⟩ := Kd.R_reads hE.text
  subst eAt
  have HE := Lib.hid hE
  have HT := Lib.hid ht
  have HL := Lib.hid hl
  have HCT := Lib.hid hct
  have HC := Lib.hid hCt
  have kt : w.cell? ⟨B, 1, none⟩ = some (.slice At t.length ct) := (blk_cell hE.box 1).trans rfl
  have km : w.cell? ⟨B, 0, none⟩ = some (.int .i64 (most : Int)) := (blk_cell hE.box 0).trans rfl
  clear hI hE ht hl hct hCt
  go_enter Try.func39, Try.ntmps39
  go_upto_region 4 with (fail)
  go_cut [4] (fun s4 wx => w = wx ∧ s4 = .int .i64 (min most t.length : Nat))
  case first =>
    go_wp2_with fail
    all_goals go_meet
    all_goals refine ⟨rfl, ?_⟩
    all_goals (congr 1; omega)
  case rest =>
  obtain ⟨rfl, rfl⟩ := hcut
  clear kt km
  go_wp2_with fail
  go_loopw [4] (fun x wr => P1Rel w most t x wr) (fun x _ => (intOf x).toNat)
  case atStart => exact ⟨_, rfl, by omega, by omega, rfl, Below.refl _ _⟩
  case round =>
    obtain ⟨n, rfl, hn1, hn2, hpl, hb⟩ := hrel
    have HPL := Lib.hid hpl
    have HB := Lib.hid hb
    clear hpl hb
    rename World => wa
    by_cases hpos : n = 0
    · have hlt' : decide (0 < n) = false := decide_eq_false (by omega)
      have HN0 := Lib.hid hpos
      clear hpos hn1 hn2
      go_wp2
      go_ret
      exact ⟨_, rfl, by rw [HPL.out, HN0.out]; exact Kd.R_nil _ _ _ _ _, HB.out⟩
    · have hlt' : decide (0 < n) = true := decide_eq_true (by omega)
      have HN1 : Hid (1 ≤ n) := Lib.hid (by omega)
      have HN2 := Lib.hid hn1
      have HN3 := Lib.hid hn2
      clear hpos hn1 hn2
      go_wp2_with fail
      refine (ahead_at wa (blk_below HE.out.box HB.out) (Kd.C_below HC.out HB.out) HCT.out HN1.out (Nat.le_trans HN2.out h4) HN3.out (Nat.le_refl _) rfl rfl).mono ?_
      rintro e wd ⟨r0, r1, r2, r3, rfl, hkey, hb⟩
      obtain ⟨g, hgg⟩ : ∃ g, gramAt t t.length n = g := ⟨_, rfl⟩
      rw [hgg] at hkey
      have hg : Gram g := hgg ▸ gramAt_gram HT.out HN1.out (Nat.le_trans HN2.out h4) HN3.out (Nat.le_refl _)
      have HGL : Hid (g.length = n) := Lib.hid (hgg ▸ gramAt_length HN3.out (Nat.le_refl _))
      have HGG := Lib.hid hgg
      have hEd := HE.out.below (HB.out.trans (hb.mono HB.out.size))
      have HBd := Lib.hid (HB.out.trans (hb.mono HB.out.size))
      have HK := Lib.hid hkey
      have HEd := Lib.hid hEd
      have HG := Lib.hid hg
      clear hlt' hgg hb HB hkey hEd hg
      go_upto_region 8 with (fail)
      obtain ⟨we, hwe⟩ : ∃ x, x = wd.alloc (.cells #[.int .i64 n, .int .i64 r0, .int .i64 r1, .int .i64 r2, .int .i64 r3] 72) := ⟨_, rfl⟩
      rw [← hwe]
      obtain ⟨gb, hgb⟩ : ∃ g, g = wd.heap.size := ⟨_, rfl⟩
      rw [← hgb]
      have bb : we.heap[gb]? = some (.cells #[.int .i64 n, .int .i64 r0, .int .i64 r1, .int .i64 r2, .int .i64 r3] 72 (0, 0)) := by rw [hwe, hgb]; exact blk_new _ _
      have hEe : IdxE we F B m most t (ocM most t) (.slice At t.length ct) es clock := by rw [hwe]; exact HEd.out.below (below_alloc (Below.refl _ _) _)
      have HBe : Hid (Below w.heap.size w we) := Lib.hid (by rw [hwe]; exact below_alloc HBd.out _)
      obtain ⟨v0, hlook, hR0⟩ := hEe.look HG.out
      rw [← HK.out] at hlook
      have hlook1 := hlook we rfl
      have hlook2 := hlook we.drew rfl
      clear hlook
      obtain ⟨l, hl⟩ : ∃ l, l = ocM most t g := ⟨_, rfl⟩
      have HLo : Hid (l = occ t g) := Lib.hid (by rw [hl]; unfold ocM; rw [if_pos (by have := HGL.out; have := HN2.out; omega)])
      rw [← hl] at hR0
      obtain ⟨L, hL⟩ : ∃ L, l.length = L := ⟨_, rfl⟩
      obtain ⟨A0, cc, e0, hc0, hC0⟩ := Kd.R_reads hR0
      rw [hL] at e0 hc0
      subst e0
      have c0 : we.cell? ⟨gb, 0, none⟩ = some (.int .i64 n) := (blk_cell bb 0).trans rfl
      have c1 : we.cell? ⟨gb, 1, none⟩ = some (.int .i64 r0) := (blk_cell bb 1).trans rfl
      have c2 : we.cell? ⟨gb, 2, none⟩ = some (.int .i64 r1) := (blk_cell bb 2).trans rfl
      have c3 : we.cell? ⟨gb, 3, none⟩ = some (.int .i64 r2) := (blk_cell bb 3).trans rfl
      have c4 : we.cell? ⟨gb, 4, none⟩ = some (.int .i64 r3) := (blk_cell bb 4).trans rfl
      have km : we.cell? ⟨B, 2, none⟩ = some (.map (some m)) := (blk_cell hEe.box 2).trans rfl
      have BB := Lib.hid bb
      have HEe := Lib.hid hEe
      have HLL := Lib.hid hL
      have HC0 := Lib.hid hC0
      have HR0 := Lib.hid hR0
      have HCC := Lib.hid hc0
      clear hwe hgb bb hEe hl hL hc0 hC0 hR0 HEd HBd HE
      go_region
      go_upto_region 9 with (fail)
      obtain ⟨wf, hwf⟩ : ∃ x, x = we.drew := ⟨_, rfl⟩
      rw [← hwf]
      have BBf : Hid (wf.heap[gb]? = some (.cells #[.int .i64 n, .int .i64 r0, .int .i64 r1, .int .i64 r2, .int .i64 r3] 72 (0, 0))) := Lib.hid (by rw [hwf]; exact BB.out)
      have HEf : Hid (IdxE wf F B m most t (ocM most t) (.slice At t.length ct) es clock) := Lib.hid (by rw [hwf]; exact HEe.out.below (below_drew (Below.refl _ _)))
      have HBf : Hid (Below w.heap.size w wf) := Lib.hid (by rw [hwf]; exact below_drew HBe.out)
      have HC0f : Hid (Kd.C (Kd.int .i64) wf A0 l.length l) := Lib.hid (by rw [hwf]; exact Kd.C_below HC0.out (below_drew (Below.refl _ _)))
      have HCf : Hid (Kd.C (Kd.int .i64) wf At t.length t) := Lib.hid (Kd.C_below HC.out HBf.out)
      clear hwf c0 c1 c2 c3 c4 km hlook1 hlook2 BB HEe HBe HC0 HR0
      by_cases hL1 : 1 < L
      · have hd1 : decide ((1 : Int) < (L : Int)) = true := decide_eq_true (by omega)
        have hd2 : decide (1 < L) = true := decide_eq_true hL1
        obtain ⟨ad, e1, k0⟩ := Kd.at_int HC0f.out (0 : Int) (by omega) (by rw [HLL.out]; omega)
        subst e1
        have hmem : rd l 0 ∈ occ t g := by
          rw [← HLo.out, show (0 : Int) = ((0 : Nat) : Int) from rfl, rd_nth]
          unfold nth
          rw [List.getD_eq_getElem?_getD, List.getElem?_eq_getElem (by rw [HLL.out]; omega)]
          exact List.getElem_mem _
        obtain ⟨q, hq, hq1, hq2, hq3⟩ := occ_mem hmem
        rw [HGL.out] at hq1 hq3
        rw [hq] at k0
        have e0 : ad.add (0 : Int).toNat = ad := by cases ad; rfl
        rw [e0] at k0
        have HQ1 := Lib.hid hq1
        have HQ2 := Lib.hid hq2
        have HQ3 := Lib.hid hq3
        have q1 : (0 : Int) < (L : Int) := by omega
        have q2 : 0 < L := by omega
        have c0 : wf.cell? ⟨gb, 1, none⟩ = some (.int .i64 r0) := (blk_cell BBf.out 1).trans rfl
        have c1 : wf.cell? ⟨gb, 2, none⟩ = some (.int .i64 r1) := (blk_cell BBf.out 2).trans rfl
        have c2 : wf.cell? ⟨gb, 3, none⟩ = some (.int .i64 r2) := (blk_cell BBf.out 3).trans rfl
        have c3 : wf.cell? ⟨gb, 4, none⟩ = some (.int .i64 r3) := (blk_cell BBf.out 4).trans rfl
        have hfld := field1 (n : Int) r0 r1 r2 r3
        have heq := eq70 r0 r1 r2 r3
        clear hmem hq hq1 hq2 hq3 e0
        go_region_held3 (fun w' => w'.cell? ⟨gb, 1, none⟩ = some (.int .i64 r0) ∧ w'.cell? ⟨gb, 2, none⟩ = some (.int .i64 r1) ∧ w'.cell? ⟨gb, 3, none⟩ = some (.int .i64 r2) ∧ w'.cell? ⟨gb, 4, none⟩ = some (.int .i64 r3) ∧ w'.cell? ad = some (.int .i64 q))
          (first | exact ⟨c0, c1, c2, c3, k0⟩ | exact ⟨pw_cell_below hb7 c0, pw_cell_below hb7 c1, pw_cell_below hb7 c2, pw_cell_below hb7 c3, pw_cell_below hb7 k0⟩)
          (first | (go_at_call 37; refine (ahead_same wf.drew HEf.out.box (Kd.C_drew HCf.out) HCT.out HN1.out (Nat.le_trans HN2.out h4) HQ1.out HQ2.out rfl rfl HQ3.out HK.out).mono ?_; rintro e w7 ⟨rfl, hb7⟩))
        rename_i hheld
        clear hheld c0 c1 c2 c3 k0 hfld heq
        have HBg : Hid (Below w.heap.size w w7) := Lib.hid (HBf.out.trans ((below_drew (Below.refl w.heap.size wf)).trans (hb7.mono HBf.out.size)))
        have hC7 := Kd.C_below HC0f.out ((below_drew (Below.refl wf.heap.size wf)).trans hb7)
        clear hb7
        obtain ⟨L0, hL0⟩ : ∃ L0, L0 + 1 = L := ⟨L - 1, by omega⟩
        have hw1 : wrap64 ((L : Int) - 1) = (L0 : Int) := by rw [IntWalk.wrap64_in _ (by have := Kd.C_max hC7; rw [HLL.out] at this; omega)]; omega
        have hw2 : IntKind.i64.wrap ((L : Int) - 1) = (L0 : Int) := by rw [IntWalk.i64_in _ (by have := Kd.C_max hC7; rw [HLL.out] at this; omega)]; omega
        obtain ⟨i0, hi0, _, hsz, _⟩ := info_parts info3
        have hcut := cut_to (P := Try.prog) 22 3 .i64 Try.underlying22 hi0 (some ad) L cc (L0 : Int) (by omega) (by omega) HCC.out
        rw [Int.toNat_natCast] at hcut
        have hCt := Kd.C_take hC7 (m := L0) (by rw [HLL.out]; omega)
        rw [show (l.take L0).length = L0 by rw [List.length_take, HLL.out]; omega] at hCt
        have HCt := Lib.hid hCt
        have HLEN : Hid ((0 + L0) * 8 ≤ 140737488355328) := Lib.hid (by
          have h1 := occ_length1 (t := t) HG.out
          rw [← HLo.out, HLL.out] at h1
          have := HL.out
          omega)
        have HRES : Hid (l.take L0 = placesL most t) := Lib.hid (by
          rw [HPL.out]
          obtain ⟨n1, hn1⟩ : ∃ n1, n = n1 + 1 := ⟨n - 1, by have := HN1.out; omega⟩
          have hg := HGG.out
          rw [hn1] at hg ⊢
          unfold placesN
          rw [hg, ← HLo.out, HLL.out, if_pos hL1, ← hL0]; rfl)
        clear hi0 hsz hC7 hCt q1 q2 hd1 hd2 hL0
        go_wp2_with (first | ((with_reducible refine gate_builtin (b := .append) (xs := #[.const (.slice none 0 0), .tmp 53]) rfl ?_); at_builtin; refine Kd.R_append_row (fun x => .int .i64 x) (0 : Int) (h1 := fun _ => rfl) (w0 := w) w.heap.size rfl (.const (.slice none 0 0)) (.tmp 53) 22 3 (.int .i64 0) 8 rfl Try.underlying22 info3 rfl (by omega) (.slice none 0 0) [] (l.take L0) (some ad) L0 cc (fun _ => True) rfl rfl (fun _ _ => trivial) (Kd.R_nil _ _ _ _ _) HCt.out HBg.out (below_size HBg.out) HLEN.out ?_; intro v1 w8 ho hb hg hat))
        go_ret
        rw [List.nil_append, HRES.out] at ho
        exact ⟨_, rfl, ho, hb⟩
      · have hd1 : decide ((1 : Int) < (L : Int)) = false := decide_eq_false (by omega)
        have hd2 : decide (1 < L) = false := decide_eq_false hL1
        obtain ⟨n1, hn1⟩ : ∃ n1, n1 + 1 = n := ⟨n - 1, by have := HN1.out; omega⟩
        have hw1 : wrap64 ((n : Int) - 1) = (n1 : Int) := by rw [IntWalk.wrap64_in _ (by have := HN2.out; omega)]; omega
        have hpl : placesL most t = placesN t n1 := by
          rw [HPL.out]
          have hg := HGG.out
          rw [← hn1] at hg ⊢
          rw [placesN, hg, ← HLo.out, HLL.out, if_neg hL1]
        have HP1 := Lib.hid hpl
        have HW1 := Lib.hid hw1
        have HNN := Lib.hid hn1
        clear hpl hw1 hn1
        go_region
        go_wp2_with fail
        rw [HW1.out]
        exact ⟨⟨n1, rfl, by have := HNN.out; have := HN2.out; omega, by have := HNN.out; have := HN3.out; omega, HP1.out, below_drew HBf.out⟩, by have := HNN.out; simp [intOf]; omega⟩
theorem inner_none (w : World) : Calls Try.prog 39 #[.pointer none] w fun e w' => e = .returned (.slice none 0 0) ∧ w' = w := by
  go_enter Try.func39, Try.ntmps39
  go_wp2
  go_ret
  exact ⟨rfl, rfl⟩
end Go.Proofs.Ytjeofkobefeigaa.Wk
