/- The walk of ngram's Cut. -/
import Derived.Test.YtjeofkobefeigaaPc
set_option linter.unusedVariables false
set_option linter.unusedSimpArgs false
namespace Go.Proofs.Ytjeofkobefeigaa.Mp
open Go.ChangeShapes Go.WideShapes Go.MapKept Go.ChangeMaps Go.WideMaps
open Go.WideElems (findIdx_born findIdx_arr modify_last set_self)
/-- 'm[k] = v' where k is a key. -/
theorem upd_old {w : World} {b : Nat} {es : Array MapEntry} {clock : Nat} (hb : w.heap[b]? = some (.map es clock)) (hk : KeysOk es.toList) {key : Value} (hkey : ∃ l, keyOf Try.prog 72 key = some l) (hyes : ∃ e ∈ es.toList, e.key = key) :
    ∃ (j : Nat) (e0 : MapEntry), es.toList[j]? = some e0 ∧ e0.key = key ∧ ∀ val, (Instr.mapUpdate 66 (.map (some b)) key val).run Try.prog w = .ok () (setBlock w b (.map (es.modify j (fun e => { e with val := val })) clock)) := by
  obtain ⟨kl, hkey⟩ := hkey
  rcases keyLaw.find w hkey es.toList hk with ⟨_, h2⟩ | ⟨j, e0, h1, h2, h3⟩
  · obtain ⟨e, he, h⟩ := hyes
    exact absurd h (h2 e he)
  · have hj : es[j]? = some e0 := by simpa using h2
    refine ⟨j, e0, h2, h3, fun val => ?_⟩
    have hmod : es.modify j (fun e => { e with val := val }) = es.modify j (fun e' => { e' with key := key, val := val }) := by
      apply Array.ext'
      rw [Array.toList_modify, Array.toList_modify, modify_eq_set _ _ _ _ h2, modify_eq_set _ _ _ _ h2, ← h3]
    rw [hmod]
    simp [Instr.mapUpdate, run_underlying Try.underlying66, MapKept.run_getObj_map hb, keyLaw.check w false hkey, h1, hj, h3, keyLaw.stays w hkey, MapKept.run_setObj_map _ hb, Result.andThen, setBlock]
end Go.Proofs.Ytjeofkobefeigaa.Mp
namespace Go.Proofs.Ytjeofkobefeigaa.Wk
open Go.RowKit Go.Proofs.YtjeofkobefeigaaW.PrintWords Go.Proofs.YtjeofkobefeigaaW.PrintLast Go.Proofs.YtjeofkobefeigaaW.PrintMore Go.Proofs.Ytjeofkobefeigaa.Mp
open Go.ChangeMaps (setBlock)
attribute [local go_sem] max2_int min2_int max_two min_two

/-- .. while a token is cut off, behind the runs of less than n tokens. -/
def ocC (most n : Nat) (t : List Int) (x : Int) (g : List Int) : List Int := if g.length ≤ most then (if g.length < n then occ t g else occ (t ++ [x]) g) else []
theorem ocC_one (most : Nat) (t : List Int) (x : Int) {g : List Int} (hg : Gram g) : ocM most (t ++ [x]) g = ocC most 1 t x g := by
  unfold ocC ocM
  have := hg.1
  rw [if_neg (show ¬ g.length < 1 by omega)]
theorem ocC_at {most n : Nat} {t : List Int} {x : Int} (hm : n ≤ most) (hp : n ≤ t.length + 1) : ocC most n t x (gramAt (t ++ [x]) (t.length + 1) n) = occ t (gramAt (t ++ [x]) (t.length + 1) n) ++ [((t.length + 1 : Nat) : Int)] := by
  have hl : (gramAt (t ++ [x]) (t.length + 1) n).length = n := gramAt_length hp (by simp)
  unfold ocC
  rw [hl, if_pos hm, if_neg (Nat.lt_irrefl n), occ_snoc, if_pos]
  unfold at?
  rw [hl]
  simp [hp]
theorem ocC_step {most n : Nat} {t : List Int} {x : Int} (hm : n ≤ most) (hp : n ≤ t.length + 1) (g : List Int) :
    updO (ocC most n t x) (gramAt (t ++ [x]) (t.length + 1) n) (occ t (gramAt (t ++ [x]) (t.length + 1) n)) g = ocC most (n + 1) t x g := by
  have hl : (gramAt (t ++ [x]) (t.length + 1) n).length = n := gramAt_length hp (by simp)
  unfold updO
  by_cases c : g = gramAt (t ++ [x]) (t.length + 1) n
  · subst c
    rw [if_pos rfl]
    unfold ocC
    rw [hl, if_pos hm, if_pos (show n < n + 1 by omega)]
  · rw [if_neg c]
    unfold ocC
    by_cases c1 : g.length ≤ most
    · rw [if_pos c1, if_pos c1]
      by_cases c2 : g.length < n
      · rw [if_pos c2, if_pos (by omega)]
      · rw [if_neg c2]
        by_cases c3 : g.length < n + 1
        · rw [if_pos c3, occ_snoc, if_neg, List.append_nil]
          have e : g.length = n := by omega
          unfold at?
          rw [e]
          simp
          exact fun _ h => c h.symm
        · rw [if_neg c3]
    · rw [if_neg c1, if_neg c1]
theorem ocC_last {most n : Nat} {t : List Int} {x : Int} (h : most < n ∨ t.length + 1 < n) (g : List Int) : ocC most n t x g = ocM most t g := by
  unfold ocC ocM
  by_cases c1 : g.length ≤ most
  · rw [if_pos c1, if_pos c1]
    by_cases c2 : g.length < n
    · rw [if_pos c2]
    · rw [if_neg c2, occ_snoc, if_neg, List.append_nil]
      unfold at?
      have : ¬ g.length ≤ t.length + 1 := by omega
      simp [this]
  · rw [if_neg c1, if_neg c1]
theorem grown_refl (w : World) (row : Option Nat) : w.grownBy w row := ⟨rfl, rfl, rfl, Nat.le_refl _, fun _ _ _ => rfl⟩
/-- A run's row with its last place taken away. -/
theorem IdxE.cut_step {w : World} {F : Nat → Prop} {B m : Nat} {most : Int} {t : List Int} {O : List Int → List Int} {tv : Value} {es : Array MapEntry} {clock : Nat} (h : IdxE w F B m most t O tv es clock) {g : List Int} (hg : Gram g) {l : List Int} {x : Int} (hO : O g = l ++ [x]) :
    ∃ (A : Addr) (c : Nat) (es2 : Array MapEntry), l.length + 1 ≤ c ∧ (Instr.lookup 66 (.map (some m)) (keyG g) false).run Try.prog w = .ok (.slice (some A) (l.length + 1) c) w ∧
      (Instr.mapUpdate 66 (.map (some m)) (keyG g) (.slice (some A) l.length c)).run Try.prog w = .ok () (setBlock w m (.map es2 clock)) ∧ IdxE (setBlock w m (.map es2 clock)) F B m most t (updO O g l) tv es2 clock ∧ Fr F w (setBlock w m (.map es2 clock)) ∧ l.length + 1 ≤ maxLen := by
  have hyes : ∃ e ∈ es.toList, e.key = keyG g := by
    refine Classical.byContradiction fun hno => ?_
    have := h.ends.none g hg (fun e he hk => hno ⟨e, he, hk⟩)
    rw [hO] at this
    simp at this
  obtain ⟨v0, hlook, hR⟩ := h.look hg
  obtain ⟨j, e0, he, hk, hupd⟩ := upd_old h.map h.ends.keysOk (key_ok hg) hyes
  have hv : v0 = e0.val := by
    rcases Mp.look h.map h.ends.keysOk (key_ok hg) with ⟨h1, _⟩ | ⟨j', e0', h1, h2, h3⟩
    · obtain ⟨e, he1, he2⟩ := hyes
      exact absurd he2 (h1 e he1)
    · have hjj : j' = j := by
        obtain ⟨hil, hi2⟩ := List.getElem?_eq_some_iff.1 h1
        obtain ⟨hjl, hj2⟩ := List.getElem?_eq_some_iff.1 he
        have hp := List.pairwise_iff_getElem.1 h.ends.keys
        have e2 : es.toList[j'].key = es.toList[j].key := by rw [hi2, hj2, h2, hk]
        rcases Nat.lt_trichotomy j' j with c | c | c
        · have := hp j' j (by simpa using hil) (by simpa using hjl) c
          simp only [List.getElem_map] at this
          exact absurd e2 this
        · exact c
        · have := hp j j' (by simpa using hjl) (by simpa using hil) c
          simp only [List.getElem_map] at this
          exact absurd e2.symm this
      subst hjj
      rw [he] at h1
      obtain rfl := Option.some.inj h1
      have := hlook w rfl
      rw [h3] at this
      injection this with this
      exact this.symm
  subst hv
  rw [hO] at hR
  obtain ⟨A, c, ev, hc, hC⟩ := Kd.R_reads hR
  rw [List.length_append, List.length_singleton] at ev hc
  have hmax := Kd.C_max hC
  rw [List.length_append, List.length_singleton] at hmax
  obtain ⟨ad, eA, _⟩ := Kd.at_int hC (0 : Int) (by omega) (by rw [List.length_append, List.length_singleton]; omega)
  subst eA
  have hR1 := Kd.R_take (m := l.length) (by rw [ev] at hR; exact hR) (by rw [List.length_append]; omega)
  rw [List.take_left' rfl] at hR1
  have hown : (Value.slice (some ad) l.length c).ownBlock = e0.val.ownBlock := by rw [ev]; rfl
  have hends := h.ends.old he hg hk hR1 (grown_refl w _) (.inl hown) (Kd.R_lt h.text)
  refine ⟨ad, c, es.modify j (fun e => { e with val := .slice (some ad) l.length c }), hc, by rw [← ev]; exact hlook w rfl, hupd _, ⟨(setBlock_other h.ne).trans h.box, R_setBlock h.text h.map _, setBlock_at (blk_lt h.map), ?_, ?_, h.fB, h.fm⟩, (Fr.refl F w).setBlock h.fm _, hmax⟩
  · obtain ⟨s1, s2⟩ := h.stamp
    have hb : (es.modify j (fun e => { e with val := .slice (some ad) l.length c })).toList.map (·.born) = es.toList.map (·.born) := by
      rw [Array.toList_modify]
      refine List.ext_getElem? fun i => ?_
      rw [List.getElem?_map, List.getElem?_map, List.getElem?_modify]
      by_cases c : j = i
      · subst c; simp [he]
      · simp [c]
    refine ⟨fun x hx => ?_, by rw [hb]; exact s2⟩
    have : x.born ∈ (es.modify j (fun e => { e with val := .slice (some ad) l.length c })).toList.map (·.born) := List.mem_map.2 ⟨x, hx, rfl⟩
    rw [hb] at this
    obtain ⟨y, hy, e⟩ := List.mem_map.1 this
    rw [← e]; exact s1 y hy
  · rw [Array.toList_modify]
    exact hends.setBlock h.map _
theorem wrap_up {n m : Nat} (h : n ≤ m + 1) (h4 : m ≤ 4) : wrap64 ((n : Int) + 1) = ((n + 1 : Nat) : Int) := by rw [IntWalk.wrap64_in _ (by omega)]; omega
theorem meas_up {m n : Nat} (h : n ≤ m) : m + 1 - (intOf (.int .i64 ((n + 1 : Nat) : Int))).toNat < m + 1 - (intOf (.int .i64 (n : Int))).toNat := by simp only [intOf]; omega
theorem meas_down {P L : Nat} (h : L + 1 = P) : (intOf (.int .i64 (L : Int))).toNat < (intOf (.int .i64 (P : Int))).toNat := by simp only [intOf]; omega
def C1Rel (w : World) (F : Nat → Prop) (B m most : Nat) (t : List Int) (c : Nat) (x : Value) (wr : World) : Prop :=
  ∃ P : Nat, x = .int .i64 P ∧ min c t.length ≤ P ∧ P ≤ t.length ∧ Idx wr F B m most (t.take P) (ocM most (t.take P)) ∧ Fr F w wr
def C2Rel (w : World) (F : Nat → Prop) (B m most : Nat) (t : List Int) (y : Int) (x : Value) (wr : World) : Prop :=
  ∃ n : Nat, x = .int .i64 n ∧ 1 ≤ n ∧ n ≤ most + 1 ∧ n ≤ t.length + 2 ∧ Idx wr F B m most (t ++ [y]) (ocC most n t y) ∧ Fr F w wr
set_option maxHeartbeats 4000000 in
set_option maxRecDepth 100000 in
theorem cut_calls {F : Nat → Prop} {B m most : Nat} {t : List Int} {n : Int} (w : World) (hF : ∀ k, w.heap.size ≤ k → F k) (hI : Idx w F B m most t (ocM most t)) (h1 : 1 ≤ most) (h4 : most ≤ 4)
    (ht : ∀ x ∈ t, (Lit.int .i64 x).wf = true) :
    Calls Try.prog 26 #[.pointer (some ⟨B, 0, none⟩), .int .i64 n] w fun e w' => e = .returned (.tuple #[]) ∧ Idx w' F B m most (t.take n.toNat) (ocM most (t.take n.toNat)) ∧ Fr F w w' := by
  obtain ⟨tv, es, clock, hE⟩ := hI.open
  obtain ⟨At, ct, eAt, hct, hCt⟩ := Kd.R_reads hE.text
  subst eAt
  have k1 : w.cell? ⟨B, 1, none⟩ = some (.slice At t.length ct) := (blk_cell hE.box 1).trans rfl
  have hmax := Kd.C_max hCt
  have HF := Lib.hid hF
  have HI := Lib.hid hI
  have HT := Lib.hid ht
  have HMAX := Lib.hid hmax
  clear hF hI ht hE hct hCt hmax
  obtain ⟨c, hc⟩ : ∃ c, n.toNat = c := ⟨_, rfl⟩
  rw [hc]
  have HC := Lib.hid hc
  clear hc
  go_enter Try.func26, Try.ntmps26
  go_wp2_with fail
  clear k1
  go_loopw [4] (fun x wr => C1Rel w F B m most t c x wr) (fun x _ => (intOf x).toNat)
  case atStart => exact ⟨t.length, rfl, Nat.min_le_right _ _, Nat.le_refl _, by rw [List.take_length]; exact HI.out, Fr.refl F w⟩
  case round =>
    obtain ⟨P, rfl, hP1, hP2, hI, hf⟩ := hrel
    have HFR := Lib.hid hf
    have HI1 := Lib.hid hI
    have HP1 := Lib.hid hP1
    have HP2 := Lib.hid hP2
    clear hI hf hP1 hP2 HI
    rename World => wa
    go_upto_region 2 with (fail)
    go_cut [17] (fun s17 wx => wa = wx ∧ s17 = .bool (decide (c < P)))
    case first =>
      have HC1 := HC.out
      by_cases hn : n < 0
      all_goals
        go_wp2_with fail
        all_goals go_meet
        all_goals refine ⟨rfl, ?_⟩
        all_goals (congr 1; first | rfl | (apply decide_eq_decide.2; omega) | (simp; omega))
    case rest =>
    obtain ⟨rfl, rfl⟩ := hcut
    by_cases hlt : c < P
    · rw [decide_eq_true hlt]
      obtain ⟨tt, htt⟩ : ∃ tt, t.take (P - 1) = tt := ⟨_, rfl⟩
      obtain ⟨y, hy⟩ : ∃ y, nth t (P - 1) = y := ⟨_, rfl⟩
      have hl : tt.length + 1 = P := by rw [← htt, List.length_take]; have := HP2.out; omega
      have hT : t.take P = tt ++ [y] := by rw [← htt, ← hy, ← take_step (by have := HP2.out; omega), show P - 1 + 1 = P by omega]
      have HI2 : Hid (Idx wa F B m most (tt ++ [y]) (ocM most (tt ++ [y]))) := Lib.hid (hT ▸ HI1.out)
      have HTT := Lib.hid htt
      have HPL := Lib.hid hl
      have HLT := Lib.hid hlt
      have HWF : Hid (∀ x ∈ tt ++ [y], (Lit.int .i64 x).wf = true) := Lib.hid (fun x hx => by
        rw [← hT] at hx
        exact HT.out x (List.mem_of_mem_take hx))
      have HPM : Hid (P ≤ 9223372036854775807) := Lib.hid (Nat.le_trans HP2.out HMAX.out)
      clear htt hy hl hT HI1 hlt
      go_wp2_with fail
      go_loopw [5] (fun x wr => C2Rel w F B m most tt y x wr) (fun x _ => most + 1 - (intOf x).toNat)
      case atStart => exact ⟨1, rfl, Nat.le_refl _, by omega, by omega, by obtain ⟨_, _, _, hE⟩ := HI2.out.open; exact (hE.congr (fun g hg => ocC_one most tt y hg)).shut, HFR.out⟩
      case round =>
        obtain ⟨n2, rfl, hn1, hn2, hn3, hI, hf⟩ := hrel
        have HI3 := Lib.hid hI
        have HFR3 := Lib.hid hf
        have HN1 := Lib.hid hn1
        have HN2 := Lib.hid hn2
        have HN3 := Lib.hid hn3
        clear hI hf HI2 HFR hn1 hn2 hn3
        rename World => wc
        obtain ⟨tv3, es3, clock3, hE⟩ := HI3.out.open
        have HE3 := Lib.hid hE
        have km : wc.cell? ⟨B, 0, none⟩ = some (.int .i64 (most : Int)) := (blk_cell hE.box 0).trans rfl
        clear hE HI3
        go_upto_region 5 with (fail)
        go_cut [27] (fun s27 wx => wc = wx ∧ s27 = .bool (decide (n2 ≤ most ∧ n2 ≤ P)))
        case first =>
          go_wp2_with fail
          all_goals go_meet
          all_goals refine ⟨rfl, ?_⟩
          all_goals (congr 1; apply decide_eq_decide.2; omega)
        case rest =>
        obtain ⟨rfl, rfl⟩ := hcut
        obtain ⟨At3, ct3, eAt, hct, hCt⟩ := Kd.R_reads HE3.out.text
        subst eAt
        by_cases hle : n2 ≤ most ∧ n2 ≤ P
        · rw [decide_eq_true hle]
          go_wp2_with fail
          refine (ahead_at wc HE3.out.box hCt hct (p := P) HN1.out (Nat.le_trans hle.1 h4) hle.2 (by rw [List.length_append, List.length_singleton, HPL.out]; exact Nat.le_refl _) rfl rfl).mono ?_
          rintro e wd ⟨r0, r1, r2, r3, rfl, hkey, hb⟩
          have HKEY := Lib.hid hkey
          have HEd := Lib.hid (HE3.out.below hb)
          have HFRd := Lib.hid (HFR3.out.trans (Fr.of_below hb))
          clear hkey hb HE3 HFR3 hct hCt km
          go_upto_region 8 with (fail)
          obtain ⟨we, hwe⟩ : ∃ x, x = wd.alloc (.cells #[.int .i64 n2, .int .i64 r0, .int .i64 r1, .int .i64 r2, .int .i64 r3] 72) := ⟨_, rfl⟩
          rw [← hwe]
          obtain ⟨gb, hgb⟩ : ∃ g, g = wd.heap.size := ⟨_, rfl⟩
          rw [← hgb]
          have bb : we.heap[gb]? = some (.cells #[.int .i64 n2, .int .i64 r0, .int .i64 r1, .int .i64 r2, .int .i64 r3] 72 (0, 0)) := by rw [hwe, hgb]; exact blk_new _ _
          have hEe : IdxE we F B m most (tt ++ [y]) (ocC most n2 tt y) (.slice At3 (tt ++ [y]).length ct3) es3 clock3 := by rw [hwe]; exact HEd.out.below (below_alloc (Below.refl _ _) _)
          have hfe : Fr F w we := by rw [hwe]; exact HFRd.out.trans (Fr.of_below (below_alloc (Below.refl _ _) _))
          have HFe := Lib.hid hfe
          have hp : n2 ≤ tt.length + 1 := by rw [HPL.out]; exact hle.2
          have hg : Gram (gramAt (tt ++ [y]) (tt.length + 1) n2) := gramAt_gram (HWF.out) HN1.out (Nat.le_trans hle.1 h4) hp (by rw [List.length_append, List.length_singleton]; exact Nat.le_refl _)
          obtain ⟨A0, c0, es4, hc0, hlook, hupd, hE4, hF4, hL4⟩ := (hEe.below (below_drew (Below.refl we.heap.size we))).cut_step hg (ocC_at hle.1 hp)
          rw [HPL.out] at hlook hupd
          rw [← HKEY.out] at hlook hupd
          obtain ⟨L0, hL0⟩ : ∃ L0, (occ tt (gramAt (tt ++ [y]) (tt.length + 1) n2)).length = L0 := ⟨_, rfl⟩
          rw [HPL.out] at hL0
          rw [hL0] at hlook hupd
          rw [HPL.out, hL0] at hc0 hL4
          have HE4 : Hid (IdxE (setBlock we.drew m (.map es4 clock3)) F B m most (tt ++ [y]) (ocC most (n2 + 1) tt y) (.slice At3 (tt ++ [y]).length ct3) es4 clock3) := Lib.hid (hE4.congr (fun g _ => ocC_step hle.1 hp g))
          have HF4 := Lib.hid ((hfe.trans (Fr.of_below (below_drew (Below.refl we.heap.size we)))).trans hF4)
          obtain ⟨L, hL⟩ : ∃ L, L0 + 1 = L := ⟨_, rfl⟩
          rw [hL] at hlook hc0 hL4
          have hLm : L ≤ 9223372036854775807 := hL4
          have hw1 : wrap64 ((L : Int) - 1) = (L0 : Int) := by rw [IntWalk.wrap64_in _ (by omega)]; omega
          have hw2 : IntKind.i64.wrap ((L : Int) - 1) = (L0 : Int) := by rw [IntWalk.i64_in _ (by omega)]; omega
          obtain ⟨i0, hi0, _, hsz, _⟩ := info_parts info3
          have hcut := cut_to (P := Try.prog) 22 3 .i64 Try.underlying22 hi0 (some A0) L c0 (L0 : Int) (by omega) (by omega) hc0
          rw [Int.toNat_natCast] at hcut
          have k0 : we.cell? ⟨gb, 0, none⟩ = some (.int .i64 n2) := (blk_cell bb 0).trans rfl
          have k1 : we.cell? ⟨gb, 1, none⟩ = some (.int .i64 r0) := (blk_cell bb 1).trans rfl
          have k2 : we.cell? ⟨gb, 2, none⟩ = some (.int .i64 r1) := (blk_cell bb 2).trans rfl
          have k3 : we.cell? ⟨gb, 3, none⟩ = some (.int .i64 r2) := (blk_cell bb 3).trans rfl
          have k4 : we.cell? ⟨gb, 4, none⟩ = some (.int .i64 r3) := (blk_cell bb 4).trans rfl
          have km : we.cell? ⟨B, 2, none⟩ = some (.map (some m)) := (blk_cell hEe.box 2).trans rfl
          have HLE := Lib.hid hle
          clear hwe hgb bb hEe hfe hp hg hE4 hF4 hL0 hL hL4 hi0 hsz HEd HFRd HKEY hle hLm hc0
          go_still_tail 20, (by kernel_rfl)
          change wpList _ _ _ _ _ we.drew
          go_wp2_with fail
          have hw3 := wrap_up HN2.out h4
          clear hw1 hw2 hcut hlook hupd
          exact ⟨⟨n2 + 1, by rw [hw3], by omega, Nat.succ_le_succ HLE.out.1, by have h1 := HLE.out.2; have h2 := HPL.out; omega, HE4.out.shut, HF4.out⟩, by rw [hw3]; exact meas_up HLE.out.1⟩
        · rw [decide_eq_false hle]
          have hE' := HE3.out.congr (fun g _ => ocC_last (by have := HPL.out; omega) g)
          have hlen : (tt ++ [y]).length = P := by rw [List.length_append, List.length_singleton, HPL.out]
          obtain ⟨ad, e1, _⟩ := Kd.at_int hCt (0 : Int) (by omega) (by rw [List.length_append, List.length_singleton]; omega)
          subst e1
          have hR := Kd.R_take (m := tt.length) HE3.out.text (by rw [List.length_append]; omega)
          rw [List.take_left' rfl] at hR
          obtain ⟨hT1, hT2⟩ := hE'.text_step hR (grown_refl wc _) (.inl rfl)
          have hR1 : Hid (Idx (wc.setCell ⟨B, 1, none⟩ (.slice (some ad) tt.length ct3)) F B m most tt (ocM most tt)) := Lib.hid hT1.shut
          have hF1 : Hid (Fr F w (wc.setCell ⟨B, 1, none⟩ (.slice (some ad) tt.length ct3))) := Lib.hid (HFR3.out.trans hT2)
          obtain ⟨L0, hL0⟩ : ∃ L0, tt.length = L0 := ⟨_, rfl⟩
          rw [hL0] at hR1 hF1
          have hPL := HPL.out
          rw [hL0] at hPL
          have HL0 := Lib.hid hL0
          have HPL2 := Lib.hid hPL
          have hw1 : wrap64 ((P : Int) - 1) = (L0 : Int) := by rw [IntWalk.wrap64_in _ (by have := HPM.out; omega)]; omega
          have hw2 : IntKind.i64.wrap ((P : Int) - 1) = (L0 : Int) := by rw [IntWalk.i64_in _ (by have := HPM.out; omega)]; omega
          obtain ⟨i0, hi0, _, hsz, _⟩ := info_parts info3
          rw [hlen] at hct
          have hcut := cut_to (P := Try.prog) 22 3 .i64 Try.underlying22 hi0 (some ad) P ct3 (L0 : Int) (by omega) (by omega) hct
          rw [Int.toNat_natCast] at hcut
          have kt : wc.cell? ⟨B, 1, none⟩ = some (.slice (some ad) P ct3) := by rw [← hlen]; exact (blk_cell HE3.out.box 1).trans rfl
          have kf := blk_frozen HE3.out.box 1
          clear hi0 hsz hct hCt hlen hE' hR hT1 hT2 hL0 hPL km hle HE3
          go_wp2_with fail
          refine ⟨⟨L0, by first | rfl | rw [hw1], by have := HLT.out; have := HPL2.out; omega, by have := HP2.out; have := HPL2.out; omega, ?_, hF1.out⟩, meas_down HPL2.out⟩
          have htk : t.take L0 = tt := by rw [← HTT.out, show L0 = P - 1 by have := HPL2.out; omega]
          rw [htk]
          exact hR1.out
    · rw [decide_eq_false hlt]
      have hP : P = min c t.length := by have := HP1.out; have := HP2.out; omega
      have HEND : Hid (Idx wa F B m most (t.take c) (ocM most (t.take c))) := Lib.hid (by
        have := HI1.out
        rw [hP, ← List.take_eq_take_min] at this
        exact this)
      clear hP HI1
      go_wp2_with fail
      go_end0
      exact ⟨rfl, HEND.out, HFR.out⟩
end Go.Proofs.Ytjeofkobefeigaa.Wk
