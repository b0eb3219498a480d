/- The walk of NgramScripts. -/
import Derived.Test.YtjeofkobefeigaaSx
set_option linter.unusedVariables false
set_option linter.unusedSimpArgs false
namespace Go.Proofs.Ytjeofkobefeigaa.Wk
open Go.RowKit Go.Shelf Go.Proofs.YtjeofkobefeigaaW.PrintWords Go.Proofs.YtjeofkobefeigaaW.PrintLast Go.Proofs.YtjeofkobefeigaaW.PrintMore Go.Proofs.Ytjeofkobefeigaa.Mp Go.Proofs.Ytjeofkobefeigaa.PEqRaw
attribute [local go_sem] Oper.semAt_some

/-- One step of a script. -/
structure SOp where
  who : Int
  kind : Int
  tokens : List Int
  n : Int
  deep : Int
def SOp.At (p : SOp) (w : World) (ad : Addr) : Prop := ∃ (At : Option Addr) (ct : Nat), w.cell? (ad.add 0) = some (.int .i64 p.who) ∧ w.cell? (ad.add 1) = some (.int .i64 p.kind) ∧ w.cell? (ad.add 2) = some (.slice At p.tokens.length ct) ∧ w.cell? (ad.add 3) = some (.int .i64 p.n) ∧ w.cell? (ad.add 4) = some (.int .i64 p.deep) ∧
  p.tokens.length ≤ ct ∧ Kd.C (Kd.int .i64) w At p.tokens.length p.tokens ∧ Wf p.tokens ∧ p.tokens.length ≤ 17592186044416 ∧ p.n ≤ 9223372036854775807
/-- A script, as the memory holds it. -/
def OpsC (w : World) (A : Option Addr) (ps : List SOp) : Prop := ps.length ≤ 17592186044416 ∧ ∀ (i : Nat) (p : SOp), ps[i]? = some p → ∃ ad : Addr, A = some ad ∧ p.At w (ad.add (i * 5))
def tokSum (ps : List SOp) (i : Nat) : Nat := ((ps.take i).map (fun p => p.tokens.length)).sum
theorem tokSum_succ {ps : List SOp} {i : Nat} {p : SOp} (h : ps[i]? = some p) : tokSum ps (i + 1) = tokSum ps i + p.tokens.length := by
  unfold tokSum
  rw [List.take_add_one, h]
  simp
theorem tokSum_mono {ps : List SOp} {j : Nat} : ∀ {i : Nat}, j ≤ i → tokSum ps j ≤ tokSum ps i := by
  intro i
  induction i with
  | zero =>
    intro h
    have : j = 0 := by omega
    subst this
    exact Nat.le_refl _
  | succ i ih =>
    intro h
    rcases Nat.lt_or_ge i j with h1 | h1
    · have : j = i + 1 := by omega
      subst this
      exact Nat.le_refl _
    · have h2 := ih h1
      cases hp : ps[i]? with
      | some p => rw [tokSum_succ hp]; omega
      | none =>
        have : ps.length ≤ i := List.getElem?_eq_none_iff.1 hp
        unfold tokSum at h2 ⊢
        rw [List.take_of_length_le (show ps.length ≤ i + 1 by omega)]
        rw [List.take_of_length_le this] at h2
        exact h2
theorem long_calls (n : Int) (w : World) : Calls Try.prog 20 #[.int .i64 n] w fun e w' => e = .returned (.bool (decide (2147483647 < n))) ∧ w' = w := by
  go_enter Try.func20, Try.ntmps20
  go_wp2_with fail
  go_ret
  exact ⟨rfl, rfl⟩
theorem SOp.At.parts {p : SOp} {w : World} {a : Addr} (h : p.At w a) : ∃ (At : Option Addr) (ct : Nat), w.cell? a = some (.int .i64 p.who) ∧ w.cell? ⟨a.block, a.off + 1, none⟩ = some (.int .i64 p.kind) ∧ w.cell? ⟨a.block, a.off + 2, none⟩ = some (.slice At p.tokens.length ct) ∧ w.cell? ⟨a.block, a.off + 3, none⟩ = some (.int .i64 p.n) ∧ w.cell? ⟨a.block, a.off + 4, none⟩ = some (.int .i64 p.deep) ∧
    p.tokens.length ≤ ct ∧ Kd.C (Kd.int .i64) w At p.tokens.length p.tokens ∧ Wf p.tokens ∧ p.tokens.length ≤ 17592186044416 ∧ p.n ≤ 9223372036854775807 := h
theorem SOp.At.below {p : SOp} {w w1 : World} {ad : Addr} (h : p.At w ad) (hb : Below w.heap.size w w1) : p.At w1 ad := by
  obtain ⟨At, ct, h0, h1, h2, h3, h4, h5, h6, h7⟩ := h
  have hcell : ∀ {j : Nat} {v : Value}, w.cell? (ad.add j) = some v → w1.cell? (ad.add j) = some v := fun {j v} hv => by
    have := World.block_lt_of_cell? w _ hv
    rw [← hv]
    exact World.cell?_of_block (hb.block _ this)
  exact ⟨At, ct, hcell h0, hcell h1, hcell h2, hcell h3, hcell h4, h5, Kd.C_below h6 hb, h7⟩
set_option maxHeartbeats 8000000 in
set_option maxRecDepth 100000 in
theorem scripts_calls {w : World} {A : Option Addr} {c : Nat} {ps : List SOp} (hO : OpsC w A ps) (hc : ps.length ≤ c) :
    Calls Try.prog 7 #[.slice A ps.length c] w fun e w' => e = .returned (.bool true) ∧ Below w.heap.size w w' := by
  have HO := Lib.hid hO
  obtain ⟨N, hN⟩ : ∃ N, ps.length = N := ⟨_, rfl⟩
  rw [hN] at hc ⊢
  have HN := Lib.hid hN
  have HCC := Lib.hid hc
  have HNL : Hid (N ≤ 17592186044416) := Lib.hid (hN ▸ hO.1)
  clear hN hO hc
  go_enter Try.func7, Try.ntmps7
  go_wp2_with (first | (go_at_call 11; refine (works_calls _).mono ?_; rintro e w1 ⟨rfl, hb1⟩) | (fail))
  have HB1 := Lib.hid hb1
  clear hb1
  go_loopw [4, 5] (fun x y wr => ∃ i : Nat, y = .int .i64 i ∧ x = .int .i64 ((N : Int) + tokSum ps i) ∧ i ≤ N ∧ (tokSum ps i : Int) ≤ 17592186044416 + 2147483647 ∧ Below w.heap.size w wr) (fun _ y _ => N - (intOf y).toNat)
  case atStart => exact ⟨0, rfl, by simp [tokSum], Nat.zero_le _, by simp [tokSum], HB1.out⟩
  case round =>
    obtain ⟨i, rfl, rfl, hi, ht, hB⟩ := hrel
    rename World => wa
    have HB := Lib.hid hB
    have HT := Lib.hid ht
    have HI := Lib.hid hi
    clear HB1 hB
    obtain ⟨s, hs⟩ : ∃ s : Nat, tokSum ps i = s := ⟨_, rfl⟩
    rw [hs] at ht ⊢
    have HS := Lib.hid hs
    clear hs
    by_cases hlt : i < N
    · have d1 : decide ((i : Int) < (N : Int)) = true := decide_eq_true (by omega)
      have d1' : decide (i < N) = true := decide_eq_true hlt
      obtain ⟨p, hp⟩ : ∃ p, ps[i]? = some p := ⟨_, List.getElem?_eq_getElem (by rw [HN.out]; exact hlt)⟩
      obtain ⟨ad, e1, hAt⟩ := HO.out.2 i p hp
      obtain ⟨At, ct, k0, k1, k2, k3, k4, k5, k6, k7, k8, k9⟩ := (hAt.below HB.out).parts
      subst e1
      by_cases hlong : (2147483647 : Int) < (N : Int) + s
      · have d2 : decide ((2147483647 : Int) < (N : Int) + s) = true := decide_eq_true hlong
        clear k0 k1 k3 k4 k6 hAt hlt hi
        go_wp2_with (first | (go_at_call 20; refine (long_calls _ _).mono ?_; rintro e w1 ⟨rfl, rfl⟩) | (fail))
        go_ret
        exact ⟨rfl, HB.out⟩
      · have d2 : decide ((2147483647 : Int) < (N : Int) + s) = false := decide_eq_false hlong
        have him : (i : Int) < (N : Int) := by omega
        have hnl : (N : Int) ≤ 17592186044416 := by have := HNL.out; omega
        have hkl : (p.tokens.length : Int) ≤ 17592186044416 := by omega
        have hsl : (s : Int) ≤ 2147483647 := by omega
        have HP := Lib.hid hp
        have HX := Lib.hid hlt
        clear k0 k1 k3 k4 k5 k6 k7 k8 k9 hAt hi ht hp
        go_wp2_with (first | (go_at_call 20; refine (long_calls _ _).mono ?_; rintro e w1 ⟨rfl, rfl⟩) | (fail))
        have e := tokSum_succ HP.out
        refine ⟨⟨i + 1, rfl, by rw [e, HS.out, Int.natCast_add, Int.add_assoc], HX.out, by rw [e, HS.out, Int.natCast_add]; omega, HB.out⟩, by have := HX.out; simp [intOf] <;> omega⟩
    · have d1 : decide ((i : Int) < (N : Int)) = false := decide_eq_false (by omega)
      have d1' : decide (i < N) = false := decide_eq_false hlt
      obtain rfl : i = N := by omega
      by_cases hlong : (2147483647 : Int) < (i : Int) + s
      · have d2 : decide ((2147483647 : Int) < (i : Int) + s) = true := decide_eq_true hlong
        clear hlt hi ht
        go_wp2_with (first | (go_at_call 20; refine (long_calls _ _).mono ?_; rintro e w1 ⟨rfl, rfl⟩) | (fail))
        go_ret
        exact ⟨rfl, HB.out⟩
      · have d2 : decide ((2147483647 : Int) < (i : Int) + s) = false := decide_eq_false hlong
        have HSL : Hid (tokSum ps i ≤ 2147483647) := Lib.hid (by rw [HS.out]; omega)
        clear hlt hi ht
        go_wp2_with (first | (go_at_call 20; refine (long_calls _ _).mono ?_; rintro e w1 ⟨rfl, rfl⟩) | (fail))
        obtain ⟨Ba, hBa⟩ : ∃ Ba, w1.heap.size = Ba := ⟨_, rfl⟩
        have hS0 := S2.start (base := w.heap.size) (w := w1) (ta := 43) (tb := 45) HB.out.size
        have hB0 := below_alloc (below_alloc HB.out (.cells #[.pointer none, .pointer none] 43)) (.cells #[.pointer none, .pointer none] 45)
        obtain ⟨w2, hw2⟩ : ∃ w2, (w1.alloc (.cells #[.pointer none, .pointer none] 43)).alloc (.cells #[.pointer none, .pointer none] 45) = w2 := ⟨_, rfl⟩
        rw [hBa, hw2] at hS0 ⊢
        rw [hw2] at hB0
        have HS0 := Lib.hid hS0
        have HB0 := Lib.hid hB0
        clear hS0 hB0 hw2 hBa HB
        go_loopw [3, 8] (fun x y wr => ∃ j : Nat, x = .bool true ∧ y = .int .i64 j ∧ j ≤ i ∧ S2 w.heap.size Ba (Ba + 1) 43 45 (tokSum ps j) wr ∧ Below w.heap.size w wr) (fun _ y _ => i - (intOf y).toNat)
        case atStart => exact ⟨0, rfl, rfl, Nat.zero_le _, HS0.out, HB0.out⟩
        case round =>
          obtain ⟨j, rfl, rfl, hj, hS, hB⟩ := hrel
          rename World => wb
          have HSS := Lib.hid hS
          have HBB := Lib.hid hB
          have HJ := Lib.hid hj
          clear HS0 HB0 hS hB
          by_cases hlt : j < i
          · have d3 : decide ((j : Int) < (i : Int)) = true := decide_eq_true (by omega)
            have d3' : decide (j < i) = true := decide_eq_true hlt
            obtain ⟨p, hp⟩ : ∃ p, ps[j]? = some p := ⟨_, List.getElem?_eq_getElem (by rw [HN.out]; exact hlt)⟩
            obtain ⟨ad, e1, hAt⟩ := HO.out.2 j p hp
            obtain ⟨At, ct, j0, j1, j2, j3, j4, k5, k6, k7, k8, k9⟩ := hAt.parts
            subst e1
            have k0 := pw_cell_below HBB.out j0
            have k1 := pw_cell_below HBB.out j1
            have k2 := pw_cell_below HBB.out j2
            have k3 := pw_cell_below HBB.out j3
            have k4 := pw_cell_below HBB.out j4
            clear j0 j1 j2 j3 j4
            have him : (j : Int) < (i : Int) := by omega
            have hnl : (i : Int) ≤ 17592186044416 := by have := HNL.out; omega
            have HP := Lib.hid hp
            have HX := Lib.hid hlt
            have H5 := Lib.hid k5
            have H6 := Lib.hid k6
            have H7 := Lib.hid k7
            have H8 := Lib.hid k8
            have H9 := Lib.hid k9
            clear k5 k6 k7 k8 k9 hAt hp hlt hj
            go_upto_if 55 with (fail)
            have HE := Lib.hid (tokSum_succ HP.out)
            have HTB : Hid (tokSum ps (j + 1) ≤ 2147483647) := Lib.hid (Nat.le_trans (tokSum_mono HX.out) HSL.out)
            obtain ⟨o9, ho9⟩ : ∃ o9 : Obj, o9 = .cells #[.int .i64 p.who, .int .i64 p.kind, .slice At p.tokens.length ct, .int .i64 p.n, .int .i64 p.deep] 42 := ⟨_, rfl⟩
            have hblk := blk_new wb (.cells #[.int .i64 p.who, .int .i64 p.kind, .slice At p.tokens.length ct, .int .i64 p.n, .int .i64 p.deep] 42)
            obtain ⟨wc, hwc⟩ : ∃ wc, wb.alloc (.cells #[.int .i64 p.who, .int .i64 p.kind, .slice At p.tokens.length ct, .int .i64 p.n, .int .i64 p.deep] 42) = wc := ⟨_, rfl⟩
            have hBc := below_alloc HBB.out (.cells #[.int .i64 p.who, .int .i64 p.kind, .slice At p.tokens.length ct, .int .i64 p.n, .int .i64 p.deep] 42)
            rw [hwc] at hblk hBc ⊢
            obtain ⟨B9, hB9⟩ : ∃ B9, wb.heap.size = B9 := ⟨_, rfl⟩
            rw [hB9] at hblk ⊢
            have HK9 := Lib.hid hblk
            have HBC := Lib.hid hBc
            have HWC := Lib.hid hwc
            have HB9 := Lib.hid hB9
            have HO9 := Lib.hid ho9
            clear hblk hwc hBc hB9 ho9 k0 k1 k2 k3 k4
            go_cut [10] (fun s10 wx => wc = wx ∧ ∃ k : Nat, k < 2 ∧ s10 = .int .i64 k)
            case first =>
              obtain ⟨r, hr⟩ : ∃ r : Int, p.who.tmod 2 = r := ⟨_, rfl⟩
              have hr3 : r = 0 ∨ r = 1 ∨ r = -1 := by
                have h1 := Int.tmod_lt_of_pos p.who (show (0 : Int) < 2 by decide)
                have h2 := Int.lt_tmod_of_pos p.who (show (0 : Int) < 2 by decide)
                rw [hr] at h1 h2
                omega
              rw [hr]
              clear hr
              rcases hr3 with rfl | rfl | rfl
              · go_wp2_with fail
                all_goals go_meet
                all_goals exact ⟨rfl, 0, by omega, rfl⟩
              · go_wp2_with fail
                all_goals go_meet
                all_goals exact ⟨rfl, 1, by omega, rfl⟩
              · go_wp2_with fail
                all_goals go_meet
                all_goals exact ⟨rfl, 1, by omega, rfl⟩
            case rest =>
            obtain ⟨rfl, k, hk, rfl⟩ := hcut
            rename World => wc
            obtain ⟨px, py, st, Q, hQ, hT, hl, hat, hclose, hnew⟩ := S2.pick HSS.out hk
            have hT2 := hT.alloc (Star.ok (SlotA.ok _ _) (Star.ok (RSlotA.ok _ _) hQ)) HBB.out.size o9
            rw [HO9.out, HWC.out, HB9.out, ← HO9.out] at hT2
            have HT := Lib.hid (hT2.imp (fun F h => h.swap.impR (fun F h => h.swap)))
            have HQ := Lib.hid hQ
            have HLT := Lib.hid hl
            have HAT := Lib.hid hat
            have HCL := Lib.hid hclose
            have HNW := Lib.hid hnew
            clear hQ hT hl hat hclose hnew hT2
            obtain ⟨kx, kxf, ky, kyf⟩ := HAT.out wc HT.out.drop.drop.drop
            have kk : wc.cell? ⟨B9, 1, none⟩ = some (.int .i64 p.kind) := (blk_cell HK9.out 1).trans rfl
            have kt : wc.cell? ⟨B9, 2, none⟩ = some (.slice At p.tokens.length ct) := (blk_cell HK9.out 2).trans rfl
            have kn : wc.cell? ⟨B9, 3, none⟩ = some (.int .i64 p.n) := (blk_cell HK9.out 3).trans rfl
            have kd : wc.cell? ⟨B9, 4, none⟩ = some (.int .i64 p.deep) := (blk_cell HK9.out 4).trans rfl
            have hk1 : (k : Int) < 2 := by omega
            have HKB := Lib.hid (show ∀ W : World, W.heap[B9]? = some o9 → W.cell? ⟨B9, 2, none⟩ = some (.slice At p.tokens.length ct) ∧ W.cell? ⟨B9, 3, none⟩ = some (.int .i64 p.n) from fun W h => by rw [HO9.out] at h; exact ⟨(blk_cell h 2).trans rfl, (blk_cell h 3).trans rfl⟩)
            have okR : Asr.Ok (Star (ObjA B9 o9) Q) := Star.ok (ObjA.ok _ _) HQ.out
            have HPL : Hid (p.tokens.length ≤ 2147483647 ∧ ((stText st).length + p.tokens.length) * 8 ≤ 140737488355328 ∧ (stText st).length ≤ 2147483647) := Lib.hid (by have := HTB.out; have := HE.out; have := HLT.out; omega)
            obtain ⟨q, hq⟩ : ∃ q, p.kind = q := ⟨_, rfl⟩
            rw [hq] at kk
            clear hq
            by_cases q1 : q = 1
            · subst q1
              have e1 : ((1 : Int) == 1) = true := rfl
              obtain ⟨E, hE⟩ : ∃ E : Int, (if p.n < 1 ∨ 4 < p.n then (1 : Int) else 0) = E := ⟨_, rfl⟩
              have hcall := new_slot (w := wc) (F := fun k => wc.heap.size ≤ k) (n := p.n) (fun _ h => h)
              have hrcall := fun w' => rnew_slot (w := w') (F := fun k => w'.heap.size ≤ k) (n := p.n) (fun _ h => h)
              rw [hE] at hcall hrcall
              have HRC := Lib.hid hrcall
              clear hE kxf kyf kx ky hrcall
              go_wp2_with fail
              refine hcall.mono ?_
              clear hcall
              rintro e wd ⟨px', rfl, hSx, hb⟩
              have okT : Asr.Ok (Star (SlotA px st) (Star (RSlotA py st) (Star (ObjA B9 o9) Q))) := Star.ok (SlotA.ok _ _) (Star.ok (RSlotA.ok _ _) okR)
              have HTd := Lib.hid (Stt.add (P := SlotA px' (stNew p.n)) (base := w.heap.size) (SlotA.ok _ _) okT HT.out (Below.refl _ _) HBC.out.size hb hSx)
              have HBd := Lib.hid (HBC.out.trans (hb.mono HBC.out.size))
              have HSX := Lib.hid hSx
              have kn2 := pw_cell_below hb kn
              clear hSx hb kk kt kn kd
              go_wp2_with fail
              refine (HRC.out _).mono ?_
              rintro e we ⟨py', rfl, hSy, hb⟩
              have HNIL := Lib.hid (both_nil HSX.out hSy)
              have hTe := Stt.add (P := RSlotA py' (stNew p.n)) (base := w.heap.size) (RSlotA.ok _ _) (Star.ok (SlotA.ok _ _) okT) HTd.out (Below.refl _ _) HBd.out.size hb hSy
              have HBe := Lib.hid (HBd.out.trans (hb.mono HBd.out.size))
              obtain ⟨kx, kxf, _, _⟩ := HAT.out we hTe.drop.drop.drop.drop.drop
              obtain ⟨hS2, hbw, ky, kyf⟩ := HNW.out we px' py' (stNew p.n) (by rw [text_new]; exact Nat.zero_le _) HBe.out.size (hTe.imp (fun F h => h.swap.impR (fun F h => h.impR (fun F h => Star.dropL HQ.out (Star.dropL okR (Star.dropL (Star.ok (RSlotA.ok _ _) okR) (by exact h)))))))
              have HS2 := Lib.hid hS2
              have HBW := Lib.hid (HBe.out.trans hbw)
              clear hS2 hbw hSy hb hTe kn2 HTd HBd HSX
              rcases HNIL.out with ⟨rfl, rfl⟩ | ⟨qa, qb, rfl, rfl⟩
              · go_wp2_with fail
                exact ⟨⟨j + 1, rfl, rfl, HX.out, HS2.out.mono (by rw [HE.out]; omega), HBW.out⟩, by have := HX.out; simp [intOf] <;> omega⟩
              · go_wp2_with fail
                exact ⟨⟨j + 1, rfl, rfl, HX.out, HS2.out.mono (by rw [HE.out]; omega), HBW.out⟩, by have := HX.out; simp [intOf] <;> omega⟩
            by_cases q2 : q = 2
            · subst q2
              have e1 : ((2 : Int) == 1) = false := rfl
              have e2 : ((2 : Int) == 2) = true := rfl
              clear kxf kyf kx ky
              go_wp2_with fail
              have hq := marked_calls (w := wc) (Kd.C_below H6.out HBC.out) H5.out (by have := HPL.out; omega)
              refine hq.mono ?_
              clear hq
              rintro e wd ⟨g, cap, rfl, hcap, hR, hb⟩
              have HTd := Lib.hid ((Stt.add (P := IntsA (.slice (some ⟨g, 0, none⟩) (p.tokens.length + 64) cap) (fullL p.tokens)) (base := w.heap.size) (IntsA.ok _ _) (Star.ok (SlotA.ok _ _) (Star.ok (RSlotA.ok _ _) okR)) HT.out (Below.refl _ _) HBC.out.size hb (R_F hR (fun _ h => h))).imp (fun F h => h.swap))
              have HBd := Lib.hid (HBC.out.trans (hb.mono HBC.out.size))
              have HCAP := Lib.hid hcap
              obtain ⟨kx, _, _, _⟩ := HAT.out wd HTd.out.drop.drop.drop.drop
              clear hR hb hcap kk kt kn kd
              go_wp2_with fail
              have hq := append_pre (ts := p.tokens) (Star.ok (RSlotA.ok _ _) okR) HTd.out HBd.out.size (by rw [fullL_length]; omega) (fullL_take _) H7.out HPL.out.2.1
              refine hq.mono ?_
              clear hq kx
              rintro e we ⟨rfl, hT, hb⟩
              have HTe := Lib.hid (hT.imp (fun F h => h.up3))
              have HBe := Lib.hid (HBd.out.trans hb)
              obtain ⟨_, _, ky, _⟩ := HAT.out we HTe.out.drop.drop.drop.drop
              obtain ⟨kt, _⟩ := HKB.out we (HTe.out.imp (fun F h => h.up4)).obj
              have CALL := Lib.hid (rappend_fr (w1 := we.drew) (A := At) (c := ct) (ts := p.tokens) (Star.ok (SlotA.ok _ _) (Star.ok (IntsA.ok _ _) okR)) HTe.out (below_drew (Below.refl we.heap.size we)) HBe.out.size H7.out (Kd.C_below H6.out (below_drew HBe.out)) H5.out (fun hn ad e => ⟨.inl (arg_lt H6.out hn ad e), by have := arg_lt H6.out hn ad e; have := HBe.out.size; show _ < we.heap.size; omega⟩) HPL.out.2.1)
              clear hT hb HTd
              go_wp2_with fail
              refine start_ (n := 6) (S := fun w' => w'.cell? ⟨Ba + 1, k, none⟩ = some py ∧ w'.cell? ⟨B9, 2, none⟩ = some (.slice At p.tokens.length ct)) (ds := [5]) #[false, false, false, false, false, false] (by kernel_rfl) rfl rfl ⟨ky, kt⟩ (fun hHeld => ?_)
              refine pure_ (i := 0) (N := some 101) (v := ?_) (a' := ?_) #[true, false, false, false, false, false] rfl rfl (by kernel_rfl) (fun _ _ _ h => h) (Or.inl ⟨by rfl, ?_⟩) ?_ ?_
              rotate_left
              · intro w'
                go_simp
                with_reducible rfl
              rotate_left
              · simp only [Act.put, List.setIfInBounds_toArray, List.set_cons_zero, List.set_cons_succ, i64_w, i32_w]
                rfl
              refine pure_ (i := 1) (N := some 102) (v := ?_) (a' := ?_) #[true, true, false, false, false, false] rfl rfl (by kernel_rfl) (fun _ _ _ h => h) (Or.inl ⟨by rfl, ?_⟩) ?_ ?_
              rotate_left
              · intro w'
                go_simp
                with_reducible rfl
              rotate_left
              · simp only [Act.put, List.setIfInBounds_toArray, List.set_cons_zero, List.set_cons_succ, i64_w, i32_w]
                rfl
              refine pure_ (i := 3) (N := some 104) (v := ?_) (a' := ?_) #[true, true, false, true, false, false] rfl rfl (by kernel_rfl) (fun _ _ _ h => h) (Or.inl ⟨by rfl, ?_⟩) ?_ ?_
              rotate_left
              · intro w'
                go_simp
                with_reducible rfl
              rotate_left
              · simp only [Act.put, List.setIfInBounds_toArray, List.set_cons_zero, List.set_cons_succ, i64_w, i32_w]
                rfl
              refine take_ (i := 2) (N := some 103) (v := ?_) (a' := ?_) #[true, true, true, true, false, false] rfl rfl (by kernel_rfl) (fun _ _ _ h => h) (Or.inl ⟨by rfl, ?_⟩) hHeld ?_ ?_
              rotate_left
              · rintro w' ⟨s0, s1⟩
                go_simp
                with_reducible rfl
              rotate_left
              · simp only [Act.put, List.setIfInBounds_toArray, List.set_cons_zero, List.set_cons_succ, i64_w, i32_w]
                rfl
              refine take_ (i := 4) (N := some 105) (v := ?_) (a' := ?_) #[true, true, true, true, true, false] rfl rfl (by kernel_rfl) (fun _ _ _ h => h) (Or.inl ⟨by rfl, ?_⟩) hHeld ?_ ?_
              rotate_left
              · rintro w' ⟨s0, s1⟩
                go_simp
                with_reducible rfl
              rotate_left
              · simp only [Act.put, List.setIfInBounds_toArray, List.set_cons_zero, List.set_cons_succ, i64_w, i32_w]
                rfl
              refine last_ (i := 5) (N := some 106) #[true, true, true, true, true, true] rfl rfl (by kernel_rfl) (by decide) (fun K hK => ?_)
              refine goes_ Try.func24 (by kernel_rfl) rfl #[py, .slice At p.tokens.length ct] (by rfl) rfl rfl (by simp only [List.map_toArray, List.map_cons, List.map_nil]; rfl) ?_
              with_reducible refine (CALL.out).mono ?_
              rintro e wg ⟨rfl, hT, hb⟩
              refine ⟨_, rfl, ?_⟩
              refine hK.out _ _ ?_
              clear hK K
              refine norm_ (a' := ?_) ?_ ?_
              rotate_left
              · show Act.put _ (some 106) _ = _
                simp only [Act.put, List.setIfInBounds_toArray, List.set_cons_zero, List.set_cons_succ, i64_w, i32_w]
                rfl
              refine done_ (by kernel_rfl) ?_
              have HTg := Lib.hid hT
              have HBg := Lib.hid ((below_drew HBe.out).trans hb)
              obtain ⟨kt2, _⟩ := HKB.out wg (HTg.out.imp (fun F h => h.up4)).obj
              obtain ⟨g1, g2⟩ := (HTg.out.imp (fun F h => h.up3)).listC
              rw [fullL_length] at g1 g2
              have G2 := Lib.hid g2
              clear hT hb kt ky g1 g2 CALL hHeld
              go_wp2_with fail
              have hq := still_calls G2.out HCAP.out (Kd.C_below H6.out HBg.out) H5.out (by have := HPL.out; omega)
              refine hq.mono ?_
              clear hq
              rintro e wh ⟨rfl, hd⟩
              have HTh := Lib.hid (HTg.out.below (Star.ok (RSlotA.ok _ _) (Star.ok (SlotA.ok _ _) (Star.ok (IntsA.ok _ _) okR))) hd.below)
              have HBh := Lib.hid (HBg.out.trans (hd.below.mono HBg.out.size))
              clear hd kt2
              go_wp2_with fail
              exact ⟨⟨j + 1, rfl, rfl, HX.out, HCL.out _ _ _ (by rw [HE.out]; omega) (by have := text_app (s := st) (ts := p.tokens); have := HLT.out; rw [HE.out]; omega) (HTh.out.imp (fun F h => h.swap.impR (fun F h => h.impR (fun F h => Star.dropL HQ.out (Star.dropL okR (by exact h)))))), HBh.out⟩, by have := HX.out; simp [intOf] <;> omega⟩
            by_cases q3 : q = 3
            · subst q3
              have e1 : ((3 : Int) == 1) = false := rfl
              have e2 : ((3 : Int) == 2) = false := rfl
              have e3 : ((3 : Int) == 3) = true := rfl
              have CALL := Lib.hid (cut_fr (w1 := wc.drew) (n := p.n) (Star.ok (RSlotA.ok _ _) okR) HT.out (below_drew (Below.refl wc.heap.size wc)) HBC.out.size)
              clear kxf kyf ky
              go_wp2_with fail
              refine start_ (n := 6) (S := fun w' => w'.cell? ⟨Ba, k, none⟩ = some px ∧ w'.cell? ⟨B9, 3, none⟩ = some (.int .i64 p.n)) (ds := [5]) #[false, false, false, false, false, false] (by kernel_rfl) rfl rfl ⟨kx, kn⟩ (fun hHeld => ?_)
              refine pure_ (i := 0) (N := some 116) (v := ?_) (a' := ?_) #[true, false, false, false, false, false] rfl rfl (by kernel_rfl) (fun _ _ _ h => h) (Or.inl ⟨by rfl, ?_⟩) ?_ ?_
              rotate_left
              · intro w'
                go_simp
                with_reducible rfl
              rotate_left
              · simp only [Act.put, List.setIfInBounds_toArray, List.set_cons_zero, List.set_cons_succ, i64_w, i32_w]
                rfl
              refine pure_ (i := 1) (N := some 117) (v := ?_) (a' := ?_) #[true, true, false, false, false, false] rfl rfl (by kernel_rfl) (fun _ _ _ h => h) (Or.inl ⟨by rfl, ?_⟩) ?_ ?_
              rotate_left
              · intro w'
                go_simp
                with_reducible rfl
              rotate_left
              · simp only [Act.put, List.setIfInBounds_toArray, List.set_cons_zero, List.set_cons_succ, i64_w, i32_w]
                rfl
              refine pure_ (i := 3) (N := some 119) (v := ?_) (a' := ?_) #[true, true, false, true, false, false] rfl rfl (by kernel_rfl) (fun _ _ _ h => h) (Or.inl ⟨by rfl, ?_⟩) ?_ ?_
              rotate_left
              · intro w'
                go_simp
                with_reducible rfl
              rotate_left
              · simp only [Act.put, List.setIfInBounds_toArray, List.set_cons_zero, List.set_cons_succ, i64_w, i32_w]
                rfl
              refine take_ (i := 2) (N := some 118) (v := ?_) (a' := ?_) #[true, true, true, true, false, false] rfl rfl (by kernel_rfl) (fun _ _ _ h => h) (Or.inl ⟨by rfl, ?_⟩) hHeld ?_ ?_
              rotate_left
              · rintro w' ⟨s0, s1⟩
                go_simp
                with_reducible rfl
              rotate_left
              · simp only [Act.put, List.setIfInBounds_toArray, List.set_cons_zero, List.set_cons_succ, i64_w, i32_w]
                rfl
              refine take_ (i := 4) (N := some 120) (v := ?_) (a' := ?_) #[true, true, true, true, true, false] rfl rfl (by kernel_rfl) (fun _ _ _ h => h) (Or.inl ⟨by rfl, ?_⟩) hHeld ?_ ?_
              rotate_left
              · rintro w' ⟨s0, s1⟩
                go_simp
                with_reducible rfl
              rotate_left
              · simp only [Act.put, List.setIfInBounds_toArray, List.set_cons_zero, List.set_cons_succ, i64_w, i32_w]
                rfl
              refine last_ (i := 5) (N := some 121) #[true, true, true, true, true, true] rfl rfl (by kernel_rfl) (by decide) (fun K hK => ?_)
              refine goes_ Try.func26 (by kernel_rfl) rfl #[px, .int .i64 p.n] (by rfl) rfl rfl (by simp only [List.map_toArray, List.map_cons, List.map_nil]; rfl) ?_
              with_reducible refine (CALL.out).mono ?_
              rintro e wd ⟨rfl, hT, hb⟩
              refine ⟨_, rfl, ?_⟩
              refine hK.out _ _ ?_
              clear hK K
              refine norm_ (a' := ?_) ?_ ?_
              rotate_left
              · show Act.put _ (some 121) _ = _
                simp only [Act.put, List.setIfInBounds_toArray, List.set_cons_zero, List.set_cons_succ, i64_w, i32_w]
                rfl
              refine done_ (by kernel_rfl) ?_
              have HTd := Lib.hid (hT.imp (fun F h => h.swap))
              have HBd := Lib.hid ((below_drew HBC.out).trans hb)
              clear hT hb kk kt kn kd kx hHeld CALL
              obtain ⟨_, _, ky, _⟩ := HAT.out wd HTd.out.drop.drop.drop
              obtain ⟨_, kn⟩ := HKB.out wd (HTd.out.imp (fun F h => h.up3)).obj
              have CALL := Lib.hid (rcut_fr (w1 := wd.drew) (n := p.n) (Star.ok (SlotA.ok _ _) okR) HTd.out (below_drew (Below.refl wd.heap.size wd)) HBd.out.size (by have := HPL.out; omega))
              go_wp2_with fail
              refine start_ (n := 6) (S := fun w' => w'.cell? ⟨Ba + 1, k, none⟩ = some py ∧ w'.cell? ⟨B9, 3, none⟩ = some (.int .i64 p.n)) (ds := [5]) #[false, false, false, false, false, false] (by kernel_rfl) rfl rfl ⟨ky, kn⟩ (fun hHeld => ?_)
              refine pure_ (i := 0) (N := some 122) (v := ?_) (a' := ?_) #[true, false, false, false, false, false] rfl rfl (by kernel_rfl) (fun _ _ _ h => h) (Or.inl ⟨by rfl, ?_⟩) ?_ ?_
              rotate_left
              · intro w'
                go_simp
                with_reducible rfl
              rotate_left
              · simp only [Act.put, List.setIfInBounds_toArray, List.set_cons_zero, List.set_cons_succ, i64_w, i32_w]
                rfl
              refine pure_ (i := 1) (N := some 123) (v := ?_) (a' := ?_) #[true, true, false, false, false, false] rfl rfl (by kernel_rfl) (fun _ _ _ h => h) (Or.inl ⟨by rfl, ?_⟩) ?_ ?_
              rotate_left
              · intro w'
                go_simp
                with_reducible rfl
              rotate_left
              · simp only [Act.put, List.setIfInBounds_toArray, List.set_cons_zero, List.set_cons_succ, i64_w, i32_w]
                rfl
              refine pure_ (i := 3) (N := some 125) (v := ?_) (a' := ?_) #[true, true, false, true, false, false] rfl rfl (by kernel_rfl) (fun _ _ _ h => h) (Or.inl ⟨by rfl, ?_⟩) ?_ ?_
              rotate_left
              · intro w'
                go_simp
                with_reducible rfl
              rotate_left
              · simp only [Act.put, List.setIfInBounds_toArray, List.set_cons_zero, List.set_cons_succ, i64_w, i32_w]
                rfl
              refine take_ (i := 2) (N := some 124) (v := ?_) (a' := ?_) #[true, true, true, true, false, false] rfl rfl (by kernel_rfl) (fun _ _ _ h => h) (Or.inl ⟨by rfl, ?_⟩) hHeld ?_ ?_
              rotate_left
              · rintro w' ⟨s0, s1⟩
                go_simp
                with_reducible rfl
              rotate_left
              · simp only [Act.put, List.setIfInBounds_toArray, List.set_cons_zero, List.set_cons_succ, i64_w, i32_w]
                rfl
              refine take_ (i := 4) (N := some 126) (v := ?_) (a' := ?_) #[true, true, true, true, true, false] rfl rfl (by kernel_rfl) (fun _ _ _ h => h) (Or.inl ⟨by rfl, ?_⟩) hHeld ?_ ?_
              rotate_left
              · rintro w' ⟨s0, s1⟩
                go_simp
                with_reducible rfl
              rotate_left
              · simp only [Act.put, List.setIfInBounds_toArray, List.set_cons_zero, List.set_cons_succ, i64_w, i32_w]
                rfl
              refine last_ (i := 5) (N := some 127) #[true, true, true, true, true, true] rfl rfl (by kernel_rfl) (by decide) (fun K hK => ?_)
              refine goes_ Try.func27 (by kernel_rfl) rfl #[py, .int .i64 p.n] (by rfl) rfl rfl (by simp only [List.map_toArray, List.map_cons, List.map_nil]; rfl) ?_
              with_reducible refine (CALL.out).mono ?_
              rintro e we ⟨rfl, hT, hb⟩
              refine ⟨_, rfl, ?_⟩
              refine hK.out _ _ ?_
              clear hK K
              refine norm_ (a' := ?_) ?_ ?_
              rotate_left
              · show Act.put _ (some 127) _ = _
                simp only [Act.put, List.setIfInBounds_toArray, List.set_cons_zero, List.set_cons_succ, i64_w, i32_w]
                rfl
              refine done_ (by kernel_rfl) ?_
              have HTe := Lib.hid (hT.imp (fun F h => h.swap))
              have HBe := Lib.hid ((below_drew HBd.out).trans hb)
              clear hT hb kn ky hHeld CALL
              go_wp2_with fail
              exact ⟨⟨j + 1, rfl, rfl, HX.out, HCL.out _ _ _ (by rw [HE.out]; omega) (by have := text_cut (s := st) (n := p.n); have := HLT.out; rw [HE.out]; omega) (HTe.out.imp (fun F h => h.impR (fun F h => h.impR (fun F h => Star.dropL HQ.out (by exact h))))), HBe.out⟩, by have := HX.out; simp [intOf] <;> omega⟩
            by_cases q4 : q = 4
            · subst q4
              have e1 : ((4 : Int) == 1) = false := rfl
              have e2 : ((4 : Int) == 2) = false := rfl
              have e3 : ((4 : Int) == 3) = false := rfl
              have e4 : ((4 : Int) == 4) = true := rfl
              obtain ⟨F1, hS1⟩ := HT.out.slot
              obtain ⟨F2, hS2⟩ := (HT.out.imp (fun F h => h.swap)).rslot
              have HC17 := Lib.hid (fun n => (len_slot (hS1.below (pw_below_drewN (Below.refl wc.heap.size wc) n))).mono (fun e w' h => (⟨h.1, h.2.symm⟩ : e = .returned (.int .i64 (stText st).length) ∧ w' = wc.drewN n)))
              have HC28 := Lib.hid (fun n => (rlen_slot (hS2.below (pw_below_drewN (Below.refl wc.heap.size wc) n))).mono (fun e w' h => (⟨h.1, h.2.symm⟩ : e = .returned (.int .i64 (stText st).length) ∧ w' = wc.drewN n)))
              clear hS1 hS2
              go_wp2_with fail
              go_quiet (first | (go_at_call 17; refine Calls.quiet_of_same (HC17.out _)) | (go_at_call 28; refine Calls.quiet_of_same (HC28.out _)))
              clear kx kxf ky kyf kk kt kn kd
              go_wp2_with fail
              have hbq := pw_below_drewN (Below.refl wc.heap.size wc) nq
              exact ⟨⟨j + 1, rfl, rfl, HX.out, HCL.out _ _ _ (by rw [HE.out]; omega) (by have := HLT.out; rw [HE.out]; omega) ((HT.out.below (Star.ok (SlotA.ok _ _) (Star.ok (RSlotA.ok _ _) okR)) hbq).imp (fun F h => h.impR (fun F h => h.impR (fun F h => Star.dropL HQ.out (by exact h))))), HBC.out.trans (hbq.mono HBC.out.size)⟩, by have := HX.out; simp [intOf] <;> omega⟩
            by_cases q5 : q = 5
            · subst q5
              have e1 : ((5 : Int) == 1) = false := rfl
              have e2 : ((5 : Int) == 2) = false := rfl
              have e3 : ((5 : Int) == 3) = false := rfl
              have e4 : ((5 : Int) == 4) = false := rfl
              have e5 : ((5 : Int) == 5) = true := rfl
              obtain ⟨F1, hS1⟩ := HT.out.slot
              obtain ⟨F2, hS2⟩ := (HT.out.imp (fun F h => h.swap)).rslot
              have hls : (stText st).length * 8 ≤ 140737488355328 := by have := HPL.out; omega
              obtain ⟨lst, hlst⟩ : ∃ lst, (stPl st).reverse = lst := ⟨_, rfl⟩
              have hq := rplaces_slot hS2 hls
              have hpl := fun (W : World) (most : Int) (hb : Below wc.heap.size wc W) => places_slot (most := most) (hS1.below hb) hls
              rw [hlst] at hq hpl
              have HPLC := Lib.hid hpl
              have HQ29 := Lib.hid hq
              clear hq hpl hlst hls hS1 hS2 kxf kyf
              go_wp2_with fail
              refine HQ29.out.mono ?_
              rintro e wd ⟨v, rfl, hR, hb⟩
              obtain ⟨Al, cl, rfl, kl, Cl⟩ := Kd.R_reads hR
              replace kx := pw_cell_below hb kx
              replace kn := pw_cell_below hb kn
              have hbD : Below wc.heap.size wc wd.drew := below_drew hb
              have hfl : ∀ most : Int, (firstL lst most).length ≤ lst.length := fun most => by unfold firstL; split; rw [List.length_take]; omega; exact Nat.le_refl _
              have hCf : ∀ (W : World) (most : Int), Below wd.drew.heap.size wd.drew W → Kd.C (Kd.int .i64) W Al (firstL lst most).length (firstL lst most) := fun W most hb => by
                have h1 := Kd.C_below (Kd.C_below Cl (below_drew (Below.refl wd.heap.size wd))) hb
                unfold firstL
                split
                · exact C_takeG h1 _
                · exact h1
              have CALL1 := Lib.hid (HPLC.out wd.drew p.n hbD)
              have CALL2 := Lib.hid (fun (W : World) (hb : Below wd.drew.heap.size wd.drew W) => (first_calls (most := p.n) (Kd.C_below (Kd.C_below Cl (below_drew (Below.refl wd.heap.size wd))) hb) kl).mono (fun e w' h => (⟨h.1, by rw [h.2]; exact Drawn0.refl _⟩ : e = .returned (.slice Al (firstL lst p.n).length cl) ∧ Drawn0 W w')))
              have CALL3 := Lib.hid (fun (W : World) (A1 : Option Addr) (c1 : Nat) (hb : Below wd.drew.heap.size wd.drew W) (K1 : (firstL lst p.n).length ≤ c1) (C1 : Kd.C (Kd.int .i64) W A1 (firstL lst p.n).length (firstL lst p.n)) => eqints_sameG C1 K1 (hCf W p.n hb) (Nat.le_trans (hfl p.n) kl))
              have hc4 := fun (W : World) (hb : Below wd.drew.heap.size wd.drew W) => HPLC.out W 0 (hbD.trans (hb.mono hbD.size))
              simp only [show firstL lst 0 = lst from rfl] at hc4
              have CALL4 := Lib.hid hc4
              clear hc4
              have CALL5 := Lib.hid (fun (W : World) (A1 : Option Addr) (c1 : Nat) (hb : Below wd.drew.heap.size wd.drew W) (K1 : lst.length ≤ c1) (C1 : Kd.C (Kd.int .i64) W A1 lst.length lst) => eqints_sameG C1 K1 (hCf W 0 hb) kl)
              have HBD := Lib.hid hbD
              clear hR hb hfl hCf hbD Cl kl kk kt kd ky HQ29 HPLC
              go_wp2_with fail
              refine start_ (n := 23) (S := fun w' => w'.cell? ⟨Ba, k, none⟩ = some px ∧ w'.cell? ⟨B9, 3, none⟩ = some (.int .i64 p.n)) (ds := [20]) #[false, false, false, false, false, false, false, false, false, false, false, false, false, false, false, false, false, false, false, false, false, false, false] (by kernel_rfl) rfl rfl ⟨kx, kn⟩ (fun hHeld => ?_)
              refine pure_ (i := 0) (N := some 148) (v := ?_) (a' := ?_) #[true, false, false, false, false, false, false, false, false, false, false, false, false, false, false, false, false, false, false, false, false, false, false] rfl rfl (by kernel_rfl) (fun _ _ _ h => h) (Or.inl ⟨by rfl, ?_⟩) ?_ ?_
              rotate_left
              · intro w'
                go_simp
                with_reducible rfl
              rotate_left
              · simp only [Act.put, List.setIfInBounds_toArray, List.set_cons_zero, List.set_cons_succ, i64_w, i32_w]
                rfl
              refine pure_ (i := 1) (N := some 149) (v := ?_) (a' := ?_) #[true, true, false, false, false, false, false, false, false, false, false, false, false, false, false, false, false, false, false, false, false, false, false] rfl rfl (by kernel_rfl) (fun _ _ _ h => h) (Or.inl ⟨by rfl, ?_⟩) ?_ ?_
              rotate_left
              · intro w'
                go_simp
                with_reducible rfl
              rotate_left
              · simp only [Act.put, List.setIfInBounds_toArray, List.set_cons_zero, List.set_cons_succ, i64_w, i32_w]
                rfl
              refine pure_ (i := 2) (N := some 150) (v := ?_) (a' := ?_) #[true, true, true, false, false, false, false, false, false, false, false, false, false, false, false, false, false, false, false, false, false, false, false] rfl rfl (by kernel_rfl) (fun _ _ _ h => h) (Or.inl ⟨by rfl, ?_⟩) ?_ ?_
              rotate_left
              · intro w'
                go_simp
                with_reducible rfl
              rotate_left
              · simp only [Act.put, List.setIfInBounds_toArray, List.set_cons_zero, List.set_cons_succ, i64_w, i32_w]
                rfl
              refine pure_ (i := 3) (N := some 151) (v := ?_) (a' := ?_) #[true, true, true, true, false, false, false, false, false, false, false, false, false, false, false, false, false, false, false, false, false, false, false] rfl rfl (by kernel_rfl) (fun _ _ _ h => h) (Or.inl ⟨by rfl, ?_⟩) ?_ ?_
              rotate_left
              · intro w'
                go_simp
                with_reducible rfl
              rotate_left
              · simp only [Act.put, List.setIfInBounds_toArray, List.set_cons_zero, List.set_cons_succ, i64_w, i32_w]
                rfl
              refine pure_ (i := 5) (N := some 153) (v := ?_) (a' := ?_) #[true, true, true, true, false, true, false, false, false, false, false, false, false, false, false, false, false, false, false, false, false, false, false] rfl rfl (by kernel_rfl) (fun _ _ _ h => h) (Or.inl ⟨by rfl, ?_⟩) ?_ ?_
              rotate_left
              · intro w'
                go_simp
                with_reducible rfl
              rotate_left
              · simp only [Act.put, List.setIfInBounds_toArray, List.set_cons_zero, List.set_cons_succ, i64_w, i32_w]
                rfl
              refine pure_ (i := 8) (N := some 156) (v := ?_) (a' := ?_) #[true, true, true, true, false, true, false, false, true, false, false, false, false, false, false, false, false, false, false, false, false, false, false] rfl rfl (by kernel_rfl) (fun _ _ _ h => h) (Or.inl ⟨by rfl, ?_⟩) ?_ ?_
              rotate_left
              · intro w'
                go_simp
                with_reducible rfl
              rotate_left
              · simp only [Act.put, List.setIfInBounds_toArray, List.set_cons_zero, List.set_cons_succ, i64_w, i32_w]
                rfl
              refine pure_ (i := 9) (N := some 157) (v := ?_) (a' := ?_) #[true, true, true, true, false, true, false, false, true, true, false, false, false, false, false, false, false, false, false, false, false, false, false] rfl rfl (by kernel_rfl) (fun _ _ _ h => h) (Or.inl ⟨by rfl, ?_⟩) ?_ ?_
              rotate_left
              · intro w'
                go_simp
                with_reducible rfl
              rotate_left
              · simp only [Act.put, List.setIfInBounds_toArray, List.set_cons_zero, List.set_cons_succ, i64_w, i32_w]
                rfl
              refine take_ (i := 4) (N := some 152) (v := ?_) (a' := ?_) #[true, true, true, true, true, true, false, false, true, true, false, false, false, false, false, false, false, false, false, false, false, false, false] rfl rfl (by kernel_rfl) (fun _ _ _ h => h) (Or.inl ⟨by rfl, ?_⟩) hHeld ?_ ?_
              rotate_left
              · rintro w' ⟨s0, s1⟩
                go_simp
                with_reducible rfl
              rotate_left
              · simp only [Act.put, List.setIfInBounds_toArray, List.set_cons_zero, List.set_cons_succ, i64_w, i32_w]
                rfl
              refine take_ (i := 6) (N := some 154) (v := ?_) (a' := ?_) #[true, true, true, true, true, true, true, false, true, true, false, false, false, false, false, false, false, false, false, false, false, false, false] rfl rfl (by kernel_rfl) (fun _ _ _ h => h) (Or.inl ⟨by rfl, ?_⟩) hHeld ?_ ?_
              rotate_left
              · rintro w' ⟨s0, s1⟩
                go_simp
                with_reducible rfl
              rotate_left
              · simp only [Act.put, List.setIfInBounds_toArray, List.set_cons_zero, List.set_cons_succ, i64_w, i32_w]
                rfl
              refine take_ (i := 10) (N := some 158) (v := ?_) (a' := ?_) #[true, true, true, true, true, true, true, false, true, true, true, false, false, false, false, false, false, false, false, false, false, false, false] rfl rfl (by kernel_rfl) (fun _ _ _ h => h) (Or.inl ⟨by rfl, ?_⟩) hHeld ?_ ?_
              rotate_left
              · rintro w' ⟨s0, s1⟩
                go_simp
                with_reducible rfl
              rotate_left
              · simp only [Act.put, List.setIfInBounds_toArray, List.set_cons_zero, List.set_cons_succ, i64_w, i32_w]
                rfl
              refine one_ (i := 7) (N := some 155) #[true, true, true, true, true, true, true, true, true, true, true, false, false, false, false, false, false, false, false, false, false, false, false] rfl rfl (by kernel_rfl) (by decide) (fun K hK => ?_)
              refine goes_ Try.func14 (by kernel_rfl) rfl #[px, .int .i64 p.n] (by rfl) rfl rfl (by simp only [List.map_toArray, List.map_cons, List.map_nil]; rfl) ?_
              with_reducible refine (CALL1.out).mono ?_
              rintro e we ⟨v1, rfl, hR1, hb1⟩
              refine ⟨_, rfl, ?_⟩
              obtain ⟨A1, c1, rfl, K1, C1⟩ := Kd.R_reads hR1
              have kx1 := pw_cell_below hb1 kx
              have kn1 := pw_cell_below hb1 kn
              refine hK.out _ _ ⟨kx1, kn1⟩ (fun hHeld => ?_)
              clear hK K
              refine norm_ (a' := ?_) ?_ ?_
              rotate_left
              · show Act.put _ (some 155) _ = _
                simp only [Act.put, List.setIfInBounds_toArray, List.set_cons_zero, List.set_cons_succ, i64_w, i32_w]
                rfl
              refine one_ (i := 11) (N := some 159) #[true, true, true, true, true, true, true, true, true, true, true, true, false, false, false, false, false, false, false, false, false, false, false] rfl rfl (by kernel_rfl) (by decide) (fun K hK => ?_)
              refine goes_ Try.func31 (by kernel_rfl) rfl #[.slice Al lst.length cl, .int .i64 p.n] (by rfl) rfl rfl (by simp only [List.map_toArray, List.map_cons, List.map_nil]; rfl) ?_
              with_reducible refine ((CALL2.out we hb1)).mono ?_
              rintro e wf ⟨rfl, hd2⟩
              refine ⟨_, rfl, ?_⟩
              have hb2 := hb1.trans (hd2.below.mono hb1.size)
              have kx2 := pw_cell_below hd2.below kx1
              have kn2 := pw_cell_below hd2.below kn1
              refine hK.out _ _ ⟨kx2, kn2⟩ (fun hHeld => ?_)
              clear hK K
              refine norm_ (a' := ?_) ?_ ?_
              rotate_left
              · show Act.put _ (some 159) _ = _
                simp only [Act.put, List.setIfInBounds_toArray, List.set_cons_zero, List.set_cons_succ, i64_w, i32_w]
                rfl
              refine one_ (i := 12) (N := some 160) #[true, true, true, true, true, true, true, true, true, true, true, true, true, false, false, false, false, false, false, false, false, false, false] rfl rfl (by kernel_rfl) (by decide) (fun K hK => ?_)
              refine goes_ Try.func30 (by kernel_rfl) rfl #[.slice A1 (firstL lst p.n).length c1, .slice Al (firstL lst p.n).length cl] (by rfl) rfl rfl (by simp only [List.map_toArray, List.map_cons, List.map_nil]; rfl) ?_
              with_reducible refine ((CALL3.out wf A1 c1 hb2 K1 (Kd.C_below C1 hd2.below))).mono ?_
              rintro e wg ⟨rfl, hd3⟩
              refine ⟨_, rfl, ?_⟩
              have hb3 := hb2.trans (hd3.below.mono hb2.size)
              have kx3 := pw_cell_below hd3.below kx2
              have kn3 := pw_cell_below hd3.below kn2
              refine hK.out _ _ ⟨kx3, kn3⟩ (fun hHeld => ?_)
              clear hK K
              refine norm_ (a' := ?_) ?_ ?_
              rotate_left
              · show Act.put _ (some 160) _ = _
                simp only [Act.put, List.setIfInBounds_toArray, List.set_cons_zero, List.set_cons_succ, i64_w, i32_w]
                rfl
              refine pure_ (i := 13) (N := some 161) (v := ?_) (a' := ?_) #[true, true, true, true, true, true, true, true, true, true, true, true, true, true, false, false, false, false, false, false, false, false, false] rfl rfl (by kernel_rfl) (fun _ _ _ h => h) (Or.inl ⟨by rfl, ?_⟩) ?_ ?_
              rotate_left
              · intro w'
                go_simp
                with_reducible rfl
              rotate_left
              · simp only [Act.put, List.setIfInBounds_toArray, List.set_cons_zero, List.set_cons_succ, i64_w, i32_w]
                rfl
              refine pure_ (i := 14) (N := some 162) (v := ?_) (a' := ?_) #[true, true, true, true, true, true, true, true, true, true, true, true, true, true, true, false, false, false, false, false, false, false, false] rfl rfl (by kernel_rfl) (fun _ _ _ h => h) (Or.inl ⟨by rfl, ?_⟩) ?_ ?_
              rotate_left
              · intro w'
                go_simp
                with_reducible rfl
              rotate_left
              · simp only [Act.put, List.setIfInBounds_toArray, List.set_cons_zero, List.set_cons_succ, i64_w, i32_w]
                rfl
              refine pure_ (i := 15) (N := some 163) (v := ?_) (a' := ?_) #[true, true, true, true, true, true, true, true, true, true, true, true, true, true, true, true, false, false, false, false, false, false, false] rfl rfl (by kernel_rfl) (fun _ _ _ h => h) (Or.inl ⟨by rfl, ?_⟩) ?_ ?_
              rotate_left
              · intro w'
                go_simp
                with_reducible rfl
              rotate_left
              · simp only [Act.put, List.setIfInBounds_toArray, List.set_cons_zero, List.set_cons_succ, i64_w, i32_w]
                rfl
              refine pure_ (i := 16) (N := some 164) (v := ?_) (a' := ?_) #[true, true, true, true, true, true, true, true, true, true, true, true, true, true, true, true, true, false, false, false, false, false, false] rfl rfl (by kernel_rfl) (fun _ _ _ h => h) (Or.inl ⟨by rfl, ?_⟩) ?_ ?_
              rotate_left
              · intro w'
                go_simp
                with_reducible rfl
              rotate_left
              · simp only [Act.put, List.setIfInBounds_toArray, List.set_cons_zero, List.set_cons_succ, i64_w, i32_w]
                rfl
              refine pure_ (i := 19) (N := some 167) (v := ?_) (a' := ?_) #[true, true, true, true, true, true, true, true, true, true, true, true, true, true, true, true, true, false, false, true, false, false, false] rfl rfl (by kernel_rfl) (fun _ _ _ h => h) (Or.inl ⟨by rfl, ?_⟩) ?_ ?_
              rotate_left
              · intro w'
                go_simp
                with_reducible rfl
              rotate_left
              · simp only [Act.put, List.setIfInBounds_toArray, List.set_cons_zero, List.set_cons_succ, i64_w, i32_w]
                rfl
              refine take_ (i := 17) (N := some 165) (v := ?_) (a' := ?_) #[true, true, true, true, true, true, true, true, true, true, true, true, true, true, true, true, true, true, false, true, false, false, false] rfl rfl (by kernel_rfl) (fun _ _ _ h => h) (Or.inl ⟨by rfl, ?_⟩) hHeld ?_ ?_
              rotate_left
              · rintro w' ⟨s0, s1⟩
                go_simp
                with_reducible rfl
              rotate_left
              · simp only [Act.put, List.setIfInBounds_toArray, List.set_cons_zero, List.set_cons_succ, i64_w, i32_w]
                rfl
              refine one_ (i := 18) (N := some 166) #[true, true, true, true, true, true, true, true, true, true, true, true, true, true, true, true, true, true, true, true, false, false, false] rfl rfl (by kernel_rfl) (by decide) (fun K hK => ?_)
              refine goes_ Try.func14 (by kernel_rfl) rfl #[px, .int .i64 0] (by rfl) rfl rfl (by simp only [List.map_toArray, List.map_cons, List.map_nil]; rfl) ?_
              with_reducible refine ((CALL4.out wg hb3)).mono ?_
              rintro e wh ⟨v4, rfl, hR4, hb4⟩
              refine ⟨_, rfl, ?_⟩
              obtain ⟨A4, c4, rfl, K4, C4⟩ := Kd.R_reads hR4
              have kx4 := pw_cell_below hb4 kx3
              have kn4 := pw_cell_below hb4 kn3
              have hb5 := hb3.trans (hb4.mono hb3.size)
              refine hK.out _ _ ⟨kx4, kn4⟩ (fun hHeld => ?_)
              clear hK K
              refine norm_ (a' := ?_) ?_ ?_
              rotate_left
              · show Act.put _ (some 166) _ = _
                simp only [Act.put, List.setIfInBounds_toArray, List.set_cons_zero, List.set_cons_succ, i64_w, i32_w]
                rfl
              refine last_ (i := 20) (N := some 168) #[true, true, true, true, true, true, true, true, true, true, true, true, true, true, true, true, true, true, true, true, true, false, false] rfl rfl (by kernel_rfl) (by decide) (fun K hK => ?_)
              refine goes_ Try.func30 (by kernel_rfl) rfl #[.slice A4 lst.length c4, .slice Al lst.length cl] (by rfl) rfl rfl (by simp only [List.map_toArray, List.map_cons, List.map_nil]; rfl) ?_
              with_reducible refine ((CALL5.out wh A4 c4 hb5 K4 C4)).mono ?_
              rintro e wi ⟨rfl, hd6⟩
              refine ⟨_, rfl, ?_⟩
              have hb6 := hb5.trans (hd6.below.mono hb5.size)
              refine hK.out _ _ ?_
              clear hK K
              refine norm_ (a' := ?_) ?_ ?_
              rotate_left
              · show Act.put _ (some 168) _ = _
                simp only [Act.put, List.setIfInBounds_toArray, List.set_cons_zero, List.set_cons_succ, i64_w, i32_w]
                rfl
              refine pure_ (i := 21) (N := some 169) (v := ?_) (a' := ?_) #[true, true, true, true, true, true, true, true, true, true, true, true, true, true, true, true, true, true, true, true, true, true, false] rfl rfl (by kernel_rfl) (fun _ _ _ h => h) (Or.inl ⟨by rfl, ?_⟩) ?_ ?_
              rotate_left
              · intro w'
                go_simp
                with_reducible rfl
              rotate_left
              · simp only [Act.put, List.setIfInBounds_toArray, List.set_cons_zero, List.set_cons_succ, i64_w, i32_w]
                rfl
              refine pure_ (i := 22) (N := some 3) (v := ?_) (a' := ?_) #[true, true, true, true, true, true, true, true, true, true, true, true, true, true, true, true, true, true, true, true, true, true, true] rfl rfl (by kernel_rfl) (fun _ _ _ h => h) (Or.inl ⟨by rfl, ?_⟩) ?_ ?_
              rotate_left
              · intro w'
                go_simp
                with_reducible rfl
              rotate_left
              · simp only [Act.put, List.setIfInBounds_toArray, List.set_cons_zero, List.set_cons_succ, i64_w, i32_w]
                rfl
              refine done_ (by kernel_rfl) ?_
              have HB6 := Lib.hid (HBD.out.trans (hb6.mono HBD.out.size))
              clear hb1 hb2 hb3 hb4 hb5 hb6 kx kn kx1 kn1 kx2 kn2 kx3 kn3 kx4 kn4 hHeld CALL1 CALL2 CALL3 CALL4 CALL5 hR1 hR4 K1 C1 K4 C4 hd2 hd3 hd6
              go_wp2_with fail
              exact ⟨⟨j + 1, rfl, rfl, HX.out, HCL.out _ _ _ (by rw [HE.out]; omega) (by have := HLT.out; rw [HE.out]; omega) ((HT.out.below (Star.ok (SlotA.ok _ _) (Star.ok (RSlotA.ok _ _) okR)) HB6.out).imp (fun F h => h.impR (fun F h => h.impR (fun F h => Star.dropL HQ.out (by exact h))))), HBC.out.trans (HB6.out.mono HBC.out.size)⟩, by have := HX.out; simp [intOf] <;> omega⟩
            by_cases q6 : q = 6
            · subst q6
              have e1 : ((6 : Int) == 1) = false := rfl
              have e2 : ((6 : Int) == 2) = false := rfl
              have e3 : ((6 : Int) == 3) = false := rfl
              have e4 : ((6 : Int) == 4) = false := rfl
              have e5 : ((6 : Int) == 5) = false := rfl
              have e6 : ((6 : Int) == 6) = true := rfl
              obtain ⟨F1, hS1⟩ := HT.out.slot
              obtain ⟨F2, hS2⟩ := (HT.out.imp (fun F h => h.swap)).rslot
              have hls : (stText st).length * 8 ≤ 140737488355328 := by have := HPL.out; omega
              obtain ⟨pr, hpr⟩ : ∃ pr, stPr st p.n p.deep = pr := ⟨_, rfl⟩
              have hc1 := propose_slot (deep := p.deep) (hS1.below (below_drew (Below.refl wc.heap.size wc))) hls H9.out
              have hc2 := fun (W : World) (hb : Below wc.drew.heap.size wc.drew W) => rpropose_slot (deep := p.deep) ((hS2.below (below_drew (Below.refl wc.heap.size wc))).below hb) hls H9.out
              rw [hpr] at hc1 hc2
              have CALL1 := Lib.hid hc1
              have CALL2 := Lib.hid hc2
              clear hc1 hc2 hpr hls hS1 hS2 kxf kyf
              go_wp2_with fail
              refine start_ (n := 21) (S := fun w' => w'.cell? ⟨Ba, k, none⟩ = some px ∧ w'.cell? ⟨Ba + 1, k, none⟩ = some py ∧ w'.cell? ⟨B9, 3, none⟩ = some (.int .i64 p.n) ∧ w'.cell? ⟨B9, 4, none⟩ = some (.int .i64 p.deep)) (ds := [18]) #[false, false, false, false, false, false, false, false, false, false, false, false, false, false, false, false, false, false, false, false, false] (by kernel_rfl) rfl rfl ⟨kx, ky, kn, kd⟩ (fun hHeld => ?_)
              refine pure_ (i := 0) (N := some 172) (v := ?_) (a' := ?_) #[true, false, false, false, false, false, false, false, false, false, false, false, false, false, false, false, false, false, false, false, false] rfl rfl (by kernel_rfl) (fun _ _ _ h => h) (Or.inl ⟨by rfl, ?_⟩) ?_ ?_
              rotate_left
              · intro w'
                go_simp
                with_reducible rfl
              rotate_left
              · simp only [Act.put, List.setIfInBounds_toArray, List.set_cons_zero, List.set_cons_succ, i64_w, i32_w]
                rfl
              refine pure_ (i := 1) (N := some 173) (v := ?_) (a' := ?_) #[true, true, false, false, false, false, false, false, false, false, false, false, false, false, false, false, false, false, false, false, false] rfl rfl (by kernel_rfl) (fun _ _ _ h => h) (Or.inl ⟨by rfl, ?_⟩) ?_ ?_
              rotate_left
              · intro w'
                go_simp
                with_reducible rfl
              rotate_left
              · simp only [Act.put, List.setIfInBounds_toArray, List.set_cons_zero, List.set_cons_succ, i64_w, i32_w]
                rfl
              refine pure_ (i := 2) (N := some 174) (v := ?_) (a' := ?_) #[true, true, true, false, false, false, false, false, false, false, false, false, false, false, false, false, false, false, false, false, false] rfl rfl (by kernel_rfl) (fun _ _ _ h => h) (Or.inl ⟨by rfl, ?_⟩) ?_ ?_
              rotate_left
              · intro w'
                go_simp
                with_reducible rfl
              rotate_left
              · simp only [Act.put, List.setIfInBounds_toArray, List.set_cons_zero, List.set_cons_succ, i64_w, i32_w]
                rfl
              refine pure_ (i := 3) (N := some 175) (v := ?_) (a' := ?_) #[true, true, true, true, false, false, false, false, false, false, false, false, false, false, false, false, false, false, false, false, false] rfl rfl (by kernel_rfl) (fun _ _ _ h => h) (Or.inl ⟨by rfl, ?_⟩) ?_ ?_
              rotate_left
              · intro w'
                go_simp
                with_reducible rfl
              rotate_left
              · simp only [Act.put, List.setIfInBounds_toArray, List.set_cons_zero, List.set_cons_succ, i64_w, i32_w]
                rfl
              refine pure_ (i := 5) (N := some 177) (v := ?_) (a' := ?_) #[true, true, true, true, false, true, false, false, false, false, false, false, false, false, false, false, false, false, false, false, false] rfl rfl (by kernel_rfl) (fun _ _ _ h => h) (Or.inl ⟨by rfl, ?_⟩) ?_ ?_
              rotate_left
              · intro w'
                go_simp
                with_reducible rfl
              rotate_left
              · simp only [Act.put, List.setIfInBounds_toArray, List.set_cons_zero, List.set_cons_succ, i64_w, i32_w]
                rfl
              refine pure_ (i := 7) (N := some 179) (v := ?_) (a' := ?_) #[true, true, true, true, false, true, false, true, false, false, false, false, false, false, false, false, false, false, false, false, false] rfl rfl (by kernel_rfl) (fun _ _ _ h => h) (Or.inl ⟨by rfl, ?_⟩) ?_ ?_
              rotate_left
              · intro w'
                go_simp
                with_reducible rfl
              rotate_left
              · simp only [Act.put, List.setIfInBounds_toArray, List.set_cons_zero, List.set_cons_succ, i64_w, i32_w]
                rfl
              refine pure_ (i := 10) (N := some 182) (v := ?_) (a' := ?_) #[true, true, true, true, false, true, false, true, false, false, true, false, false, false, false, false, false, false, false, false, false] rfl rfl (by kernel_rfl) (fun _ _ _ h => h) (Or.inl ⟨by rfl, ?_⟩) ?_ ?_
              rotate_left
              · intro w'
                go_simp
                with_reducible rfl
              rotate_left
              · simp only [Act.put, List.setIfInBounds_toArray, List.set_cons_zero, List.set_cons_succ, i64_w, i32_w]
                rfl
              refine pure_ (i := 11) (N := some 183) (v := ?_) (a' := ?_) #[true, true, true, true, false, true, false, true, false, false, true, true, false, false, false, false, false, false, false, false, false] rfl rfl (by kernel_rfl) (fun _ _ _ h => h) (Or.inl ⟨by rfl, ?_⟩) ?_ ?_
              rotate_left
              · intro w'
                go_simp
                with_reducible rfl
              rotate_left
              · simp only [Act.put, List.setIfInBounds_toArray, List.set_cons_zero, List.set_cons_succ, i64_w, i32_w]
                rfl
              refine pure_ (i := 13) (N := some 185) (v := ?_) (a' := ?_) #[true, true, true, true, false, true, false, true, false, false, true, true, false, true, false, false, false, false, false, false, false] rfl rfl (by kernel_rfl) (fun _ _ _ h => h) (Or.inl ⟨by rfl, ?_⟩) ?_ ?_
              rotate_left
              · intro w'
                go_simp
                with_reducible rfl
              rotate_left
              · simp only [Act.put, List.setIfInBounds_toArray, List.set_cons_zero, List.set_cons_succ, i64_w, i32_w]
                rfl
              refine pure_ (i := 15) (N := some 187) (v := ?_) (a' := ?_) #[true, true, true, true, false, true, false, true, false, false, true, true, false, true, false, true, false, false, false, false, false] rfl rfl (by kernel_rfl) (fun _ _ _ h => h) (Or.inl ⟨by rfl, ?_⟩) ?_ ?_
              rotate_left
              · intro w'
                go_simp
                with_reducible rfl
              rotate_left
              · simp only [Act.put, List.setIfInBounds_toArray, List.set_cons_zero, List.set_cons_succ, i64_w, i32_w]
                rfl
              refine take_ (i := 4) (N := some 176) (v := ?_) (a' := ?_) #[true, true, true, true, true, true, false, true, false, false, true, true, false, true, false, true, false, false, false, false, false] rfl rfl (by kernel_rfl) (fun _ _ _ h => h) (Or.inl ⟨by rfl, ?_⟩) hHeld ?_ ?_
              rotate_left
              · rintro w' ⟨s0, s1, s2, s3⟩
                go_simp
                with_reducible rfl
              rotate_left
              · simp only [Act.put, List.setIfInBounds_toArray, List.set_cons_zero, List.set_cons_succ, i64_w, i32_w]
                rfl
              refine take_ (i := 6) (N := some 178) (v := ?_) (a' := ?_) #[true, true, true, true, true, true, true, true, false, false, true, true, false, true, false, true, false, false, false, false, false] rfl rfl (by kernel_rfl) (fun _ _ _ h => h) (Or.inl ⟨by rfl, ?_⟩) hHeld ?_ ?_
              rotate_left
              · rintro w' ⟨s0, s1, s2, s3⟩
                go_simp
                with_reducible rfl
              rotate_left
              · simp only [Act.put, List.setIfInBounds_toArray, List.set_cons_zero, List.set_cons_succ, i64_w, i32_w]
                rfl
              refine take_ (i := 8) (N := some 180) (v := ?_) (a' := ?_) #[true, true, true, true, true, true, true, true, true, false, true, true, false, true, false, true, false, false, false, false, false] rfl rfl (by kernel_rfl) (fun _ _ _ h => h) (Or.inl ⟨by rfl, ?_⟩) hHeld ?_ ?_
              rotate_left
              · rintro w' ⟨s0, s1, s2, s3⟩
                go_simp
                with_reducible rfl
              rotate_left
              · simp only [Act.put, List.setIfInBounds_toArray, List.set_cons_zero, List.set_cons_succ, i64_w, i32_w]
                rfl
              refine take_ (i := 12) (N := some 184) (v := ?_) (a' := ?_) #[true, true, true, true, true, true, true, true, true, false, true, true, true, true, false, true, false, false, false, false, false] rfl rfl (by kernel_rfl) (fun _ _ _ h => h) (Or.inl ⟨by rfl, ?_⟩) hHeld ?_ ?_
              rotate_left
              · rintro w' ⟨s0, s1, s2, s3⟩
                go_simp
                with_reducible rfl
              rotate_left
              · simp only [Act.put, List.setIfInBounds_toArray, List.set_cons_zero, List.set_cons_succ, i64_w, i32_w]
                rfl
              refine take_ (i := 14) (N := some 186) (v := ?_) (a' := ?_) #[true, true, true, true, true, true, true, true, true, false, true, true, true, true, true, true, false, false, false, false, false] rfl rfl (by kernel_rfl) (fun _ _ _ h => h) (Or.inl ⟨by rfl, ?_⟩) hHeld ?_ ?_
              rotate_left
              · rintro w' ⟨s0, s1, s2, s3⟩
                go_simp
                with_reducible rfl
              rotate_left
              · simp only [Act.put, List.setIfInBounds_toArray, List.set_cons_zero, List.set_cons_succ, i64_w, i32_w]
                rfl
              refine take_ (i := 16) (N := some 188) (v := ?_) (a' := ?_) #[true, true, true, true, true, true, true, true, true, false, true, true, true, true, true, true, true, false, false, false, false] rfl rfl (by kernel_rfl) (fun _ _ _ h => h) (Or.inl ⟨by rfl, ?_⟩) hHeld ?_ ?_
              rotate_left
              · rintro w' ⟨s0, s1, s2, s3⟩
                go_simp
                with_reducible rfl
              rotate_left
              · simp only [Act.put, List.setIfInBounds_toArray, List.set_cons_zero, List.set_cons_succ, i64_w, i32_w]
                rfl
              refine one_ (i := 9) (N := some 181) #[true, true, true, true, true, true, true, true, true, true, true, true, true, true, true, true, true, false, false, false, false] rfl rfl (by kernel_rfl) (by decide) (fun K hK => ?_)
              refine goes_ Try.func18 (by kernel_rfl) rfl #[px, .int .i64 p.n, .int .i64 p.deep] (by rfl) rfl rfl (by simp only [List.map_toArray, List.map_cons, List.map_nil]; rfl) ?_
              with_reducible refine (CALL1.out).mono ?_
              rintro e wd ⟨v1, rfl, hR1, hb1⟩
              refine ⟨_, rfl, ?_⟩
              obtain ⟨A1, c1, rfl, K1, C1⟩ := Kd.R_reads hR1
              have kx1 := pw_cell_below hb1 kx
              have ky1 := pw_cell_below hb1 ky
              have kn1 := pw_cell_below hb1 kn
              have kd1 := pw_cell_below hb1 kd
              refine hK.out _ _ ⟨kx1, ky1, kn1, kd1⟩ (fun hHeld => ?_)
              clear hK K
              refine norm_ (a' := ?_) ?_ ?_
              rotate_left
              · show Act.put _ (some 181) _ = _
                simp only [Act.put, List.setIfInBounds_toArray, List.set_cons_zero, List.set_cons_succ, i64_w, i32_w]
                rfl
              refine one_ (i := 17) (N := some 189) #[true, true, true, true, true, true, true, true, true, true, true, true, true, true, true, true, true, true, false, false, false] rfl rfl (by kernel_rfl) (by decide) (fun K hK => ?_)
              refine goes_ Try.func33 (by kernel_rfl) rfl #[py, .int .i64 p.n, .int .i64 p.deep] (by rfl) rfl rfl (by simp only [List.map_toArray, List.map_cons, List.map_nil]; rfl) ?_
              with_reducible refine ((CALL2.out wd hb1)).mono ?_
              rintro e we ⟨v2, rfl, hR2, hb2⟩
              refine ⟨_, rfl, ?_⟩
              obtain ⟨A2, c2, rfl, K2, C2⟩ := Kd.R_reads hR2
              have kx2 := pw_cell_below hb2 kx1
              have ky2 := pw_cell_below hb2 ky1
              have kn2 := pw_cell_below hb2 kn1
              have kd2 := pw_cell_below hb2 kd1
              refine hK.out _ _ ⟨kx2, ky2, kn2, kd2⟩ (fun hHeld => ?_)
              clear hK K
              refine norm_ (a' := ?_) ?_ ?_
              rotate_left
              · show Act.put _ (some 189) _ = _
                simp only [Act.put, List.setIfInBounds_toArray, List.set_cons_zero, List.set_cons_succ, i64_w, i32_w]
                rfl
              refine last_ (i := 18) (N := some 190) #[true, true, true, true, true, true, true, true, true, true, true, true, true, true, true, true, true, true, true, false, false] rfl rfl (by kernel_rfl) (by decide) (fun K hK => ?_)
              refine goes_ Try.func32 (by kernel_rfl) rfl #[.slice A1 pr.length c1, .slice A2 pr.length c2] (by rfl) rfl rfl (by simp only [List.map_toArray, List.map_cons, List.map_nil]; rfl) ?_
              with_reducible refine ((eqraw_sameG (Kd.C_below C1 hb2) K1 C2 K2)).mono ?_
              rintro e wf ⟨rfl, hd3⟩
              refine ⟨_, rfl, ?_⟩
              have hb3 := (hb1.trans (hb2.mono hb1.size)).trans (hd3.below.mono (hb1.trans (hb2.mono hb1.size)).size)
              refine hK.out _ _ ?_
              clear hK K
              refine norm_ (a' := ?_) ?_ ?_
              rotate_left
              · show Act.put _ (some 190) _ = _
                simp only [Act.put, List.setIfInBounds_toArray, List.set_cons_zero, List.set_cons_succ, i64_w, i32_w]
                rfl
              refine pure_ (i := 19) (N := some 191) (v := ?_) (a' := ?_) #[true, true, true, true, true, true, true, true, true, true, true, true, true, true, true, true, true, true, true, true, false] rfl rfl (by kernel_rfl) (fun _ _ _ h => h) (Or.inl ⟨by rfl, ?_⟩) ?_ ?_
              rotate_left
              · intro w'
                go_simp
                with_reducible rfl
              rotate_left
              · simp only [Act.put, List.setIfInBounds_toArray, List.set_cons_zero, List.set_cons_succ, i64_w, i32_w]
                rfl
              refine pure_ (i := 20) (N := some 3) (v := ?_) (a' := ?_) #[true, true, true, true, true, true, true, true, true, true, true, true, true, true, true, true, true, true, true, true, true] rfl rfl (by kernel_rfl) (fun _ _ _ h => h) (Or.inl ⟨by rfl, ?_⟩) ?_ ?_
              rotate_left
              · intro w'
                go_simp
                with_reducible rfl
              rotate_left
              · simp only [Act.put, List.setIfInBounds_toArray, List.set_cons_zero, List.set_cons_succ, i64_w, i32_w]
                rfl
              refine done_ (by kernel_rfl) ?_
              have HB3 := Lib.hid ((below_drew (Below.refl wc.heap.size wc)).trans hb3)
              clear hb1 hb2 hb3 kx ky kn kd kx1 ky1 kn1 kd1 kx2 ky2 kn2 kd2 hHeld CALL1 CALL2 hR1 hR2 K1 C1 K2 C2 hd3 kk kt
              go_wp2_with fail
              exact ⟨⟨j + 1, rfl, rfl, HX.out, HCL.out _ _ _ (by rw [HE.out]; omega) (by have := HLT.out; rw [HE.out]; omega) ((HT.out.below (Star.ok (SlotA.ok _ _) (Star.ok (RSlotA.ok _ _) okR)) HB3.out).imp (fun F h => h.impR (fun F h => h.impR (fun F h => Star.dropL HQ.out (by exact h))))), HBC.out.trans (HB3.out.mono HBC.out.size)⟩, by have := HX.out; simp [intOf] <;> omega⟩
            have e1 : (q == 1) = false := beq_eq_false_iff_ne.2 q1
            have e2 : (q == 2) = false := beq_eq_false_iff_ne.2 q2
            have e3 : (q == 3) = false := beq_eq_false_iff_ne.2 q3
            have e4 : (q == 4) = false := beq_eq_false_iff_ne.2 q4
            have e5 : (q == 5) = false := beq_eq_false_iff_ne.2 q5
            have e6 : (q == 6) = false := beq_eq_false_iff_ne.2 q6
            clear q1 q2 q3 q4 q5 q6
            go_wp2_with fail
            exact ⟨⟨j + 1, rfl, rfl, HX.out, HCL.out _ _ _ (by rw [HE.out]; omega) (by have := HLT.out; rw [HE.out]; omega) (HT.out.imp (fun F h => h.impR (fun F h => h.impR (fun F h => Star.dropL HQ.out (by exact h))))), HBC.out⟩, by have := HX.out; simp [intOf] <;> omega⟩
          · have d3 : decide ((j : Int) < (i : Int)) = false := decide_eq_false (by omega)
            have d3' : decide (j < i) = false := decide_eq_false hlt
            clear hlt hj
            go_wp2_with fail
            go_ret
            exact ⟨rfl, HBB.out⟩
end Go.Proofs.Ytjeofkobefeigaa.Wk
