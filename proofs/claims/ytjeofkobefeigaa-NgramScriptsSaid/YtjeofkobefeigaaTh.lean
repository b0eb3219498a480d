/- The walks of augurlaw13's first and through. -/
import Derived.Test.YtjeofkobefeigaaYc
set_option linter.unusedVariables false
set_option linter.unusedSimpArgs false
namespace Go.Proofs.Ytjeofkobefeigaa.Wk
open Go.RowKit Go.Shelf Go.Proofs.YtjeofkobefeigaaW.PrintWords Go.Proofs.YtjeofkobefeigaaW.PrintLast Go.Proofs.YtjeofkobefeigaaW.PrintMore Go.Proofs.Ytjeofkobefeigaa.Mp
attribute [local go_sem] Oper.semAt_some

theorem Star.dropL {P Q : Asr} (hQ : Asr.Ok Q) {w : World} {F : Nat → Prop} (h : Star P Q w F) : Q w F := by
  obtain ⟨Fp, Fq, h1, h2, h3, h4⟩ := h
  exact hQ.re h2 (fun k hk _ => h4 k (.inr hk))
theorem Star.up3 {A B S Q : Asr} {w : World} {F : Nat → Prop} (h : Star A (Star B (Star S Q)) w F) : Star S (Star A (Star B Q)) w F := (h.impR (fun _ h => h.swap)).swap
theorem Star.up4 {A B C S Q : Asr} {w : World} {F : Nat → Prop} (h : Star A (Star B (Star C (Star S Q))) w F) : Star S (Star A (Star B (Star C Q))) w F := (h.impR (fun _ h => h.up3)).swap
theorem Star.up5 {A B C D S Q : Asr} {w : World} {F : Nat → Prop} (h : Star A (Star B (Star C (Star D (Star S Q)))) w F) : Star S (Star A (Star B (Star C (Star D Q)))) w F := (h.impR (fun _ h => h.up4)).swap
theorem Star.up6 {A B C D E S Q : Asr} {w : World} {F : Nat → Prop} (h : Star A (Star B (Star C (Star D (Star E (Star S Q))))) w F) : Star S (Star A (Star B (Star C (Star D (Star E Q))))) w F := (h.impR (fun _ h => h.up5)).swap
theorem Star.up7 {A B C D E G S Q : Asr} {w : World} {F : Nat → Prop} (h : Star A (Star B (Star C (Star D (Star E (Star G (Star S Q)))))) w F) : Star S (Star A (Star B (Star C (Star D (Star E (Star G Q)))))) w F := (h.impR (fun _ h => h.up6)).swap
theorem first_calls {w : World} {A : Option Addr} {c : Nat} {l : List Int} {most : Int} (hC : Kd.C (Kd.int .i64) w A l.length l) (hc : l.length ≤ c) :
    Calls Try.prog 31 #[.slice A l.length c, .int .i64 most] w fun e w' => e = .returned (.slice A (firstL l most).length c) ∧ w' = w := by
  obtain ⟨L, hL⟩ : ∃ L, l.length = L := ⟨_, rfl⟩
  have hres : ∀ m, (firstL l most).length = m → (m : Int) = if 0 < most ∧ most < (L : Int) then most else (L : Int) := fun m hm => by
    unfold firstL at hm
    split at hm
    · rw [List.length_take] at hm
      split <;> omega
    · rw [if_neg (by omega)]; omega
  obtain ⟨m, hm⟩ : ∃ m, (firstL l most).length = m := ⟨_, rfl⟩
  have hmm := hres m hm
  rw [hm]
  rw [hL] at hc ⊢
  clear hres hm hC hL
  by_cases c1 : 0 < most
  · have d1 : decide (0 < most) = true := decide_eq_true c1
    by_cases c2 : most < (L : Int)
    · have d2 : decide (most < (L : Int)) = true := decide_eq_true c2
      rw [if_pos ⟨c1, c2⟩] at hmm
      subst hmm
      obtain ⟨i0, hi0, _, hsz, _⟩ := info_parts info3
      have hcut := cut_to (P := Try.prog) 22 3 .i64 Try.underlying22 hi0 A L c (m : Int) (by omega) (by omega) hc
      rw [Int.toNat_natCast] at hcut
      clear hi0 hsz
      go_enter Try.func31, Try.ntmps31
      go_wp2_with fail
      go_ret
      exact ⟨rfl, rfl⟩
    · have d2 : decide (most < (L : Int)) = false := decide_eq_false c2
      rw [if_neg (by omega)] at hmm
      obtain rfl : m = L := by omega
      clear hmm
      go_enter Try.func31, Try.ntmps31
      go_wp2_with fail
      go_ret
      exact ⟨rfl, rfl⟩
  · have d1 : decide (0 < most) = false := decide_eq_false c1
    rw [if_neg (by omega)] at hmm
    obtain rfl : m = L := by omega
    clear hmm
    go_enter Try.func31, Try.ntmps31
    go_wp2_with fail
    go_ret
    exact ⟨rfl, rfl⟩
set_option maxRecDepth 100000 in
set_option maxHeartbeats 8000000 in
theorem through_calls {base : Nat} {w : World} {p : Value} {st : Option (Nat × List Int)} {Q : Asr} {A : Option Addr} {c : Nat} {ts : List Int} {n : Int} (hQ : Asr.Ok Q) (h : Stt base w (Star (SlotA p st) Q)) (hbase : base ≤ w.heap.size)
    (hts : Wf ts) (hC : Kd.C (Kd.int .i64) w A ts.length ts) (hc : ts.length ≤ c) (hA : ts ≠ [] → ∀ ad, A = some ad → ad.block < base) (hl : ((stText st).length + ts.length) * 8 ≤ 140737488355328) :
    Calls Try.prog 36 #[p, .slice A ts.length c, .int .i64 n] w fun e w' => ∃ v1 v2 v3, e = .returned (.tuple #[v1, v2, v3]) ∧
      Stt base w' (Star (IntsA v1 (stPl (stApp ts st)).reverse) (Star (IntsA v2 ((stPl (stApp ts st)).reverse.take 2)) (Star (IntsA v3 (stPl (stCut n (stApp ts st))).reverse) (Star (SlotA p (stCut n (stApp ts st))) Q)))) ∧ Below base w w' := by
  obtain ⟨F0, hS0⟩ := h.slot
  obtain ⟨q, rfl⟩ := hS0.ptr
  clear hS0
  have HTS := Lib.hid hts
  have HC := Lib.hid hC
  have HCC := Lib.hid hc
  have HA := Lib.hid hA
  have HL := Lib.hid hl
  have HT := Lib.hid h
  clear hts hC hc hA hl h
  refine (callsIn_wide (n := 5)).1 ?_
  refine callsIn_of_wp_marks Try.func36 rfl trivial ?_ rfl
  simp only [Try.ntmps36, List.size_toArray, List.length_cons, List.length_nil, Nat.reduceAdd, Nat.reduceSub, Array.replicate_succ, Array.replicate_zero, List.push_toArray, List.append_toArray, List.nil_append, List.cons_append]
  have hnil := eqnil 38 #[.pointer (some ⟨w.heap.size, 0, none⟩)]
  gi_wp2_with (first | (refine ⟨trivial, ?_⟩; gi_at_call 35; refine (places_fn _ (.pointer q) ⟨q, rfl⟩ _).mono ?_; rintro e w' ⟨rfl, rfl⟩) | (fail))
  clear hnil
  have hT1 := HT.out.alloc (Star.ok (SlotA.ok _ _) hQ) hbase (.cells #[.pointer q] 25)
  have hT2 := hT1.alloc (Star.ok (ObjA.ok _ _) (Star.ok (SlotA.ok _ _) hQ)) (by rw [World.size_alloc]; omega) (.cells #[.slice none 0 0] 22)
  have hT3 := hT2.alloc (Star.ok (ObjA.ok _ _) (Star.ok (ObjA.ok _ _) (Star.ok (SlotA.ok _ _) hQ))) (by rw [World.size_alloc, World.size_alloc]; omega) (.cells #[.slice none 0 0] 22)
  have hT4 := hT3.alloc (Star.ok (ObjA.ok _ _) (Star.ok (ObjA.ok _ _) (Star.ok (ObjA.ok _ _) (Star.ok (SlotA.ok _ _) hQ)))) (by rw [World.size_alloc, World.size_alloc, World.size_alloc]; omega) (.cells #[.slice none 0 0] 22)
  rw [World.size_alloc, World.size_alloc, World.size_alloc] at hT4
  have hB4 : Below w.heap.size w ((((w.alloc (.cells #[.pointer q] 25)).alloc (.cells #[.slice none 0 0] 22)).alloc (.cells #[.slice none 0 0] 22)).alloc (.cells #[.slice none 0 0] 22)) := below_alloc (below_alloc (below_alloc (below_alloc (Below.refl _ _) _) _) _) _
  have hT5 := hT4.imp (fun F h => h.up5)
  have hok5 : Asr.Ok (Star (ObjA (w.heap.size + 1 + 1 + 1) (.cells #[.slice none 0 0] 22)) (Star (ObjA (w.heap.size + 1 + 1) (.cells #[.slice none 0 0] 22)) (Star (ObjA (w.heap.size + 1) (.cells #[.slice none 0 0] 22)) (Star (ObjA w.heap.size (.cells #[.pointer q] 25)) Q)))) := Star.ok (ObjA.ok _ _) (Star.ok (ObjA.ok _ _) (Star.ok (ObjA.ok _ _) (Star.ok (ObjA.ok _ _) hQ)))
  refine ⟨trivial, (callsIn_wide.2 (append_fr (ts := ts) (A := A) (c := c) hok5 hT5 (Below.refl _ _) (Nat.le_trans hbase hB4.size) HTS.out (Kd.C_below HC.out hB4) HCC.out (fun hn ad e => ⟨.inl (HA.out hn ad e), by have := HA.out hn ad e; have := hB4.size; omega⟩) HL.out)).mono ?_⟩
  rintro e w5 ⟨rfl, hT, hb⟩
  have HT5 := Lib.hid hT
  have HB5 := Lib.hid ((hB4.mono hbase).trans hb)
  clear hT hb hT1 hT2 hT3 hT4 hT5 hB4 HT hok5
  gi_wp2
  -- the first loop
  have hbnd : ∀ (s : Option (Nat × List Int)), (stText s).length * 8 ≤ 140737488355328 → ∀ m, m < (stPl s).length → (m + 1) * 8 ≤ 140737488355328 := fun s hs m hm => by have := stPl_length s; omega
  have hl1 : (stText (stApp ts st)).length * 8 ≤ 140737488355328 := by
    have := HL.out
    cases st with
    | none => simp [stApp, stText]
    | some s => show (s.2 ++ ts).length * 8 ≤ _; rw [List.length_append]; exact this
  have HL1 := Lib.hid hl1
  have HBND0 := Lib.hid hbnd
  clear hl1 hbnd
  obtain ⟨WB, hWB⟩ : ∃ WB, WB = w5 := ⟨_, rfl⟩
  subst hWB
  have HBND : Hid (∀ m, m < (stPl (stApp ts st)).length → (m + 1) * 8 ≤ 140737488355328) := Lib.hid (HBND0.out _ HL1.out)
  have hU1 := HT5.out.imp (fun F h => h.up4)
  have HU1 := Lib.hid hU1
  have HBX : Hid (w.heap.size + 1 < WB.heap.size) := Lib.hid (blk_lt hU1.obj)
  have hBp := (HT5.out.imp (fun F h => h.up5)).obj
  obtain ⟨Fs, hSs⟩ := HT5.out.slot
  refine loop_law (n := 5) (by omega) (Bx := w.heap.size + 1) (Bp := w.heap.size) (p := .pointer q) (pl := stPl (stApp ts st)) rfl rfl hBp ⟨q, rfl⟩ hU1.obj (fun W hb => inner_slot (hSs.below hb) HL1.out) (fun _ => True) trivial (fun _ _ => False) (fun x => { tmps := #[Value.pointer q, Value.slice A ts.length c, Value.int IntKind.i64 n, undef, undef, undef, Value.slice none 0 0, Value.slice none 0 0, Value.slice none 0 0, Value.func (Fn.func 38) #[] #[Value.pointer (some ⟨w.heap.size, 0, none⟩)], Value.pointer (some ⟨w.heap.size + 1, 0, none⟩), Value.pointer (some ⟨w.heap.size + 1 + 1, 0, none⟩), Value.pointer (some ⟨w.heap.size + 1 + 1 + 1, 0, none⟩), Value.int IntKind.i64 x, undef, undef, Value.pointer q, Value.func (Fn.func 38) #[] #[Value.pointer (some ⟨w.heap.size, 0, none⟩)], Value.func (Fn.func 38) #[] #[Value.pointer (some ⟨w.heap.size, 0, none⟩)], Value.bool false, undef, Value.pointer q, Value.slice A ts.length c, Value.tuple #[], Value.func (Fn.func 38) #[] #[Value.pointer (some ⟨w.heap.size, 0, none⟩)], Value.int IntKind.i64 x, undef, undef, undef, undef, undef, undef, undef, undef, undef, undef, undef, undef, undef, undef, undef, undef, undef, undef, undef, undef, undef, undef, undef, undef, undef], defers := [] }) ?assign1 ?body1 ?done1 ?stop1
  case assign1 =>
    intro l x W K hK
    gi_wp2
    exact hK
  case stop1 => exact fun _ _ _ _ _ _ h => h.elim
  case body1 =>
    rintro l pre x W _ ⟨⟨v, hv, hR⟩, hf⟩ hlen
    have kv : W.cell? ⟨w.heap.size + 1, 0, none⟩ = some v := (blk_cell hv 0).trans rfl
    have HV := Lib.hid hv
    have HR := Lib.hid hR
    have HF := Lib.hid hf
    have HLEN := Lib.hid hlen
    clear hv hR hf hlen
    gi_wp2_with (gi_at_builtin; refine appIn (W := W) (base := WB.heap.size) rfl (.tmp 26) (.tmp 28) rfl v pre x rfl rfl HR.out HF.out.size (HBND.out _ HLEN.out) ?_; intro v1 w1 ho hg hat hk; obtain ⟨A1, c1, rfl, kv1, kf1, hst⟩ := ThI.step HBX.out HV.out HR.out HF.out ho hg hat hk; have HST := Lib.hid hst; clear ho hg hat hk hst)
    obtain ⟨s1, s2, s3, s4⟩ := HST.out
    exact ⟨s1, s2, trivial, s3⟩
  case done1 =>
    rintro D1 w6 hD1 _ hI hK1
    obtain ⟨hT6, hb6⟩ := hI.stt (Star.ok (SlotA.ok _ _) (Star.ok (ObjA.ok _ _) (Star.ok (ObjA.ok _ _) (Star.ok (ObjA.ok _ _) hQ)))) HU1.out (Nat.le_trans hbase (by have := hI.2.size; have := HB5.out.size; omega)) hD1 hK1
    have HT6 := Lib.hid hT6
    have HB6 := Lib.hid (HB5.out.trans hb6)
    have HSZ : Hid (w.heap.size ≤ w6.heap.size) := Lib.hid (by have := hI.2.size; have := HBX.out; omega)
    clear hT6 hb6 hI hK1
    gi_wp2
    have HU2 := Lib.hid (HT6.out.imp (fun F h => h.up5))
    have HBX2 : Hid (w.heap.size + 1 + 1 < w6.heap.size) := Lib.hid (blk_lt HU2.out.obj)
    have hBp2 := (HT6.out.imp (fun F h => h.up6)).obj
    obtain ⟨Fs2, hSs2⟩ := (HT6.out.imp (fun F h => h.up3)).slot
    refine loop_law (n := 5) (by omega) (Bx := w.heap.size + 1 + 1) (Bp := w.heap.size) (p := .pointer q) (pl := stPl (stApp ts st)) rfl rfl hBp2 ⟨q, rfl⟩ HU2.out.obj (fun W hb => inner_slot (hSs2.below hb) HL1.out) (fun pre => pre.length < 2) (by simp) (fun c pre => c = .exit 2 ∧ pre.length = 2) (fun x => { tmps := #[Value.pointer q, Value.slice A ts.length c, Value.int IntKind.i64 n, undef, undef, undef, Value.slice none 0 0, Value.slice none 0 0, Value.slice none 0 0, Value.func (Fn.func 38) #[] #[Value.pointer (some ⟨w.heap.size, 0, none⟩)], Value.pointer (some ⟨w.heap.size + 1, 0, none⟩), Value.pointer (some ⟨w.heap.size + 1 + 1, 0, none⟩), Value.pointer (some ⟨w.heap.size + 1 + 1 + 1, 0, none⟩), undef, Value.int IntKind.i64 x, undef, Value.pointer q, Value.func (Fn.func 38) #[] #[Value.pointer (some ⟨w.heap.size, 0, none⟩)], Value.func (Fn.func 38) #[] #[Value.pointer (some ⟨w.heap.size, 0, none⟩)], Value.bool false, undef, Value.pointer q, Value.slice A ts.length c, Value.tuple #[], Value.func (Fn.func 38) #[] #[Value.pointer (some ⟨w.heap.size, 0, none⟩)], undef, undef, undef, undef, undef, Value.func (Fn.func 38) #[] #[Value.pointer (some ⟨w.heap.size, 0, none⟩)], Value.int IntKind.i64 x, undef, undef, undef, undef, undef, undef, undef, undef, undef, undef, undef, undef, undef, undef, undef, undef, undef, undef, undef], defers := [] }) ?assign2 ?body2 ?done2 ?stop2
    case assign2 =>
      intro l x W K hK
      gi_wp2
      exact hK
    case body2 =>
      rintro l pre x W hci ⟨⟨v, hv, hR⟩, hf⟩ hlen
      have kv : W.cell? ⟨w.heap.size + 1 + 1, 0, none⟩ = some v := (blk_cell hv 0).trans rfl
      have HV := Lib.hid hv
      have HR := Lib.hid hR
      have HF := Lib.hid hf
      have HLEN := Lib.hid hlen
      clear hv hR hf hlen hBp2
      by_cases h1 : pre.length = 1
      · have d1 : ((pre.length : Int) + 1 == 2) = true := beq_iff_eq.2 (by omega)
        have HH := Lib.hid h1
        clear h1 hci
        gi_wp2_with (gi_at_builtin; refine appIn (W := W) (base := w6.heap.size) rfl (.tmp 32) (.tmp 34) rfl v pre x rfl rfl HR.out HF.out.size (HBND.out _ HLEN.out) ?_; intro v1 w1 ho hg hat hk; obtain ⟨A1, c1, rfl, kv1, kf1, hst⟩ := ThI.step HBX2.out HV.out HR.out HF.out ho hg hat hk; have kx := hst.2.2.2; have HST := Lib.hid hst; clear ho hg hat hk hst)
        obtain ⟨s1, s2, s3, s4⟩ := HST.out
        exact ⟨s1, ⟨rfl, by rw [List.length_append, HH.out]; rfl⟩, s3⟩
      · have d1 : ((pre.length : Int) + 1 == 2) = false := beq_eq_false_iff_ne.2 (by omega)
        have HH : Hid (pre.length + 1 < 2) := Lib.hid (by omega)
        clear h1 hci
        gi_wp2_with (gi_at_builtin; refine appIn (W := W) (base := w6.heap.size) rfl (.tmp 32) (.tmp 34) rfl v pre x rfl rfl HR.out HF.out.size (HBND.out _ HLEN.out) ?_; intro v1 w1 ho hg hat hk; obtain ⟨A1, c1, rfl, kv1, kf1, hst⟩ := ThI.step HBX2.out HV.out HR.out HF.out ho hg hat hk; have kx := hst.2.2.2; have HST := Lib.hid hst; clear ho hg hat hk hst)
        obtain ⟨s1, s2, s3, s4⟩ := HST.out
        exact ⟨s1, s2, by rw [List.length_append]; exact HH.out, s3⟩
    case done2 =>
      rintro D2 w7 hD2 hci hI hK2
      have hl2 : (stPl (stApp ts st)).reverse = (stPl (stApp ts st)).reverse.take 2 := (List.take_of_length_le (by omega)).symm
      rw [hl2] at hI
      have HB7S : Hid (w6.heap.size ≤ w7.heap.size) := Lib.hid hI.2.size
      obtain ⟨hT7, hb7⟩ := hI.stt (Star.ok (ObjA.ok _ _) (Star.ok (BoxA.ok _ _) (Star.ok (SlotA.ok _ _) (Star.ok (ObjA.ok _ _) (Star.ok (ObjA.ok _ _) hQ))))) HU2.out (Nat.le_trans hbase HSZ.out) hD2 hK2
      clear hl2 hci hBp2
      have HT7 := Lib.hid (hT7.imp (fun F h => h.up5))
      have HB7 := Lib.hid (HB6.out.trans hb7)
      clear hT7 hb7 hI hK2
      gi_wp2
      refine ⟨trivial, (callsIn_wide.2 (cut_fr (n := n) (Star.ok (ObjA.ok _ _) (Star.ok (BoxA.ok _ _) (Star.ok (ObjA.ok _ _) (Star.ok (BoxA.ok _ _) (Star.ok (ObjA.ok _ _) (Star.ok (ObjA.ok _ _) hQ)))))) HT7.out (Below.refl _ _) (Nat.le_trans hbase (Nat.le_trans HSZ.out HB7S.out)))).mono ?_⟩
      rintro e w8 ⟨rfl, hT8, hb8⟩
      have HT8 := Lib.hid hT8
      have HB8 := Lib.hid (HB7.out.trans hb8)
      have HB8S := Lib.hid hb8.size
      have HL3 : Hid ((stText (stCut n (stApp ts st))).length * 8 ≤ 140737488355328) := Lib.hid (by
        have := HL1.out
        cases st with
        | none => simp [stApp, stCut, stText]
        | some s => show ((s.2 ++ ts).take n.toNat).length * 8 ≤ _; rw [List.length_take]; have h2 : (s.2 ++ ts).length * 8 ≤ 140737488355328 := this; omega)
      clear hT8 hb8 HT7
      gi_wp2
      have HBND3 : Hid (∀ m, m < (stPl (stCut n (stApp ts st))).length → (m + 1) * 8 ≤ 140737488355328) := Lib.hid (HBND0.out _ HL3.out)
      have HU3 := Lib.hid (HT8.out.imp (fun F h => h.up6))
      have HBX3 : Hid (w.heap.size + 1 + 1 + 1 < w8.heap.size) := Lib.hid (blk_lt HU3.out.obj)
      have hBp3 := (HT8.out.imp (fun F h => h.up7)).obj
      obtain ⟨Fs3, hSs3⟩ := HT8.out.slot
      refine loop_law (n := 5) (by omega) (Bx := w.heap.size + 1 + 1 + 1) (Bp := w.heap.size) (p := .pointer q) (pl := stPl (stCut n (stApp ts st))) rfl rfl hBp3 ⟨q, rfl⟩ HU3.out.obj (fun W hb => inner_slot (hSs3.below hb) HL3.out) (fun _ => True) trivial (fun _ _ => False) (fun x => { tmps := #[Value.pointer q, Value.slice A ts.length c, Value.int IntKind.i64 n, undef, undef, undef, Value.slice none 0 0, Value.slice none 0 0, Value.slice none 0 0, Value.func (Fn.func 38) #[] #[Value.pointer (some ⟨w.heap.size, 0, none⟩)], Value.pointer (some ⟨w.heap.size + 1, 0, none⟩), Value.pointer (some ⟨w.heap.size + 1 + 1, 0, none⟩), Value.pointer (some ⟨w.heap.size + 1 + 1 + 1, 0, none⟩), undef, undef, Value.int IntKind.i64 x, Value.pointer q, Value.func (Fn.func 38) #[] #[Value.pointer (some ⟨w.heap.size, 0, none⟩)], Value.func (Fn.func 38) #[] #[Value.pointer (some ⟨w.heap.size, 0, none⟩)], Value.bool false, undef, Value.pointer q, Value.slice A ts.length c, Value.tuple #[], Value.func (Fn.func 38) #[] #[Value.pointer (some ⟨w.heap.size, 0, none⟩)], undef, undef, undef, undef, undef, Value.func (Fn.func 38) #[] #[Value.pointer (some ⟨w.heap.size, 0, none⟩)], undef, undef, undef, undef, undef, undef, undef, undef, Value.pointer q, Value.int IntKind.i64 n, Value.tuple #[], Value.func (Fn.func 38) #[] #[Value.pointer (some ⟨w.heap.size, 0, none⟩)], Value.int IntKind.i64 x, undef, undef, undef, undef, undef, undef, undef], defers := [] }) ?assign3 ?body3 ?done3 ?stop3
      case assign3 =>
        intro l x W K hK
        gi_wp2
        exact hK
      case stop3 => exact fun _ _ _ _ _ _ h => h.elim
      case body3 =>
        rintro l pre x W _ ⟨⟨v, hv, hR⟩, hf⟩ hlen
        have kv : W.cell? ⟨w.heap.size + 1 + 1 + 1, 0, none⟩ = some v := (blk_cell hv 0).trans rfl
        have HV := Lib.hid hv
        have HR := Lib.hid hR
        have HF := Lib.hid hf
        have HLEN := Lib.hid hlen
        clear hv hR hf hlen hBp3
        gi_wp2_with (gi_at_builtin; refine appIn (W := W) (base := w8.heap.size) rfl (.tmp 44) (.tmp 46) rfl v pre x rfl rfl HR.out HF.out.size (HBND3.out _ HLEN.out) ?_; intro v1 w1 ho hg hat hk; obtain ⟨A1, c1, rfl, kv1, kf1, hst⟩ := ThI.step HBX3.out HV.out HR.out HF.out ho hg hat hk; have HST := Lib.hid hst; clear ho hg hat hk hst)
        obtain ⟨s1, s2, s3, s4⟩ := HST.out
        exact ⟨s1, s2, trivial, s3⟩
      case done3 =>
        rintro D3 w9 hD3 _ hI3 hK3
        obtain ⟨hT9, hb9⟩ := hI3.stt (Star.ok (SlotA.ok _ _) (Star.ok (ObjA.ok _ _) (Star.ok (BoxA.ok _ _) (Star.ok (ObjA.ok _ _) (Star.ok (BoxA.ok _ _) (Star.ok (ObjA.ok _ _) hQ)))))) HU3.out (Nat.le_trans hbase (Nat.le_trans HSZ.out (Nat.le_trans HB7S.out HB8S.out))) hD3 hK3
        obtain ⟨v1, hv1, hT10⟩ := (hT9.imp (fun F h => h.up7)).unbox
        obtain ⟨v2, hv2, hT11⟩ := (hT10.imp (fun F h => h.up6)).unbox
        obtain ⟨v3, hv3, hT12⟩ := (hT11.imp (fun F h => h.up4)).unbox
        have kv1 : w9.cell? ⟨w.heap.size + 1, 0, none⟩ = some v1 := (blk_cell hv1 0).trans rfl
        have kv2 : w9.cell? ⟨w.heap.size + 1 + 1, 0, none⟩ = some v2 := (blk_cell hv2 0).trans rfl
        have kv3 : w9.cell? ⟨w.heap.size + 1 + 1 + 1, 0, none⟩ = some v3 := (blk_cell hv3 0).trans rfl
        have HT12 := Lib.hid hT12
        have HB9 := Lib.hid (HB8.out.trans hb9)
        have hI3S : Hid (w8.heap.size ≤ w9.heap.size) := Lib.hid hI3.2.size
        clear hT9 hT10 hT11 hT12 hb9 hI3 hK3 hv1 hv2 hv3 HT8 hBp3
        gi_wp2
        refine wpIn_wide.2 ?_
        go_quiet (fail)
        gi_wp2
        have hdq : Below w9.heap.size w9 (w9.drewN nq) := Drawn0.below ⟨⟨_, rfl⟩⟩
        have hok : Asr.Ok (Star (IntsA v3 (stPl (stCut n (stApp ts st))).reverse) (Star (IntsA v2 ((stPl (stApp ts st)).reverse.take 2)) (Star (IntsA v1 (stPl (stApp ts st)).reverse) (Star (ObjA D3 (.deferred (some []))) (Star (SlotA (.pointer q) (stCut n (stApp ts st))) (Star (ObjA D2 (.deferred (some []))) (Star (ObjA D1 (.deferred (some []))) (Star (ObjA w.heap.size (.cells #[.pointer q] 25)) Q)))))))) := Star.ok (IntsA.ok _ _) (Star.ok (IntsA.ok _ _) (Star.ok (IntsA.ok _ _) (Star.ok (ObjA.ok _ _) (Star.ok (SlotA.ok _ _) (Star.ok (ObjA.ok _ _) (Star.ok (ObjA.ok _ _) (Star.ok (ObjA.ok _ _) hQ)))))))
        have hE0 := (HT12.out.below hok hdq).imp (fun F h => h.up4)
        have hBE := HB9.out.trans (hdq.mono (by have := HB9.out.size; have := HSZ.out; have := HB7S.out; have := HB8S.out; have := hI3S.out; omega))
        have hk3 := hE0.obj
        obtain ⟨hE1, hb1⟩ := Stt.put (o' := .deferred none) (Star.ok (IntsA.ok _ _) (Star.ok (IntsA.ok _ _) (Star.ok (IntsA.ok _ _) (Star.ok (SlotA.ok _ _) (Star.ok (ObjA.ok _ _) (Star.ok (ObjA.ok _ _) (Star.ok (ObjA.ok _ _) hQ))))))) hE0
        have hE1 := hE1.imp (fun F h => h.up5)
        have hk2 := hE1.obj
        obtain ⟨hE2, hb2⟩ := Stt.put (o' := .deferred none) (Star.ok (IntsA.ok _ _) (Star.ok (IntsA.ok _ _) (Star.ok (IntsA.ok _ _) (Star.ok (SlotA.ok _ _) (Star.ok (ObjA.ok _ _) (Star.ok (ObjA.ok _ _) hQ)))))) hE1
        have hE2 := hE2.imp (fun F h => h.up5)
        have hk1 := hE2.obj
        obtain ⟨hE3, hb3⟩ := Stt.put (o' := .deferred none) (Star.ok (IntsA.ok _ _) (Star.ok (IntsA.ok _ _) (Star.ok (IntsA.ok _ _) (Star.ok (SlotA.ok _ _) (Star.ok (ObjA.ok _ _) hQ))))) hE2
        refine ⟨by simp, .inl ⟨_, _, rfl, run_takeDeferred hk3, ?_⟩⟩
        refine ⟨by simp, .inl ⟨_, _, rfl, run_takeDeferred hk2, ?_⟩⟩
        refine ⟨by simp, .inl ⟨_, _, rfl, run_takeDeferred hk1, ?_⟩⟩
        refine ⟨.tuple #[v1, v2, v3], by simp [results, Try.results36, go_sem], v1, v2, v3, rfl, ?_, ((hBE.trans hb1).trans hb2).trans hb3⟩
        exact hE3.imp (fun F h => h.up3.impR (fun F h => h.swap.impR (fun F h => h.impR (fun F h => h.impR (fun F h => Star.dropL hQ h)))))
    case stop2 =>
      rintro D2 c2 pre w7 hD2 hpre ⟨rfl, hlen2⟩ hI hK2
      have hl2 : pre = (stPl (stApp ts st)).reverse.take 2 := by
        have := List.prefix_iff_eq_take.1 hpre
        rw [hlen2] at this
        exact this
      rw [hl2] at hI
      have HB7S : Hid (w6.heap.size ≤ w7.heap.size) := Lib.hid hI.2.size
      obtain ⟨hT7, hb7⟩ := hI.stt (Star.ok (ObjA.ok _ _) (Star.ok (BoxA.ok _ _) (Star.ok (SlotA.ok _ _) (Star.ok (ObjA.ok _ _) (Star.ok (ObjA.ok _ _) hQ))))) HU2.out (Nat.le_trans hbase HSZ.out) hD2 hK2
      clear hl2 hpre hlen2 hBp2
      have HT7 := Lib.hid (hT7.imp (fun F h => h.up5))
      have HB7 := Lib.hid (HB6.out.trans hb7)
      clear hT7 hb7 hI hK2
      gi_wp2
      refine ⟨trivial, (callsIn_wide.2 (cut_fr (n := n) (Star.ok (ObjA.ok _ _) (Star.ok (BoxA.ok _ _) (Star.ok (ObjA.ok _ _) (Star.ok (BoxA.ok _ _) (Star.ok (ObjA.ok _ _) (Star.ok (ObjA.ok _ _) hQ)))))) HT7.out (Below.refl _ _) (Nat.le_trans hbase (Nat.le_trans HSZ.out HB7S.out)))).mono ?_⟩
      rintro e w8 ⟨rfl, hT8, hb8⟩
      have HT8 := Lib.hid hT8
      have HB8 := Lib.hid (HB7.out.trans hb8)
      have HB8S := Lib.hid hb8.size
      have HL3 : Hid ((stText (stCut n (stApp ts st))).length * 8 ≤ 140737488355328) := Lib.hid (by
        have := HL1.out
        cases st with
        | none => simp [stApp, stCut, stText]
        | some s => show ((s.2 ++ ts).take n.toNat).length * 8 ≤ _; rw [List.length_take]; have h2 : (s.2 ++ ts).length * 8 ≤ 140737488355328 := this; omega)
      clear hT8 hb8 HT7
      gi_wp2
      have HBND3 : Hid (∀ m, m < (stPl (stCut n (stApp ts st))).length → (m + 1) * 8 ≤ 140737488355328) := Lib.hid (HBND0.out _ HL3.out)
      have HU3 := Lib.hid (HT8.out.imp (fun F h => h.up6))
      have HBX3 : Hid (w.heap.size + 1 + 1 + 1 < w8.heap.size) := Lib.hid (blk_lt HU3.out.obj)
      have hBp3 := (HT8.out.imp (fun F h => h.up7)).obj
      obtain ⟨Fs3, hSs3⟩ := HT8.out.slot
      refine loop_law (n := 5) (by omega) (Bx := w.heap.size + 1 + 1 + 1) (Bp := w.heap.size) (p := .pointer q) (pl := stPl (stCut n (stApp ts st))) rfl rfl hBp3 ⟨q, rfl⟩ HU3.out.obj (fun W hb => inner_slot (hSs3.below hb) HL3.out) (fun _ => True) trivial (fun _ _ => False) (fun x => { tmps := #[Value.pointer q, Value.slice A ts.length c, Value.int IntKind.i64 n, undef, undef, undef, Value.slice none 0 0, Value.slice none 0 0, Value.slice none 0 0, Value.func (Fn.func 38) #[] #[Value.pointer (some ⟨w.heap.size, 0, none⟩)], Value.pointer (some ⟨w.heap.size + 1, 0, none⟩), Value.pointer (some ⟨w.heap.size + 1 + 1, 0, none⟩), Value.pointer (some ⟨w.heap.size + 1 + 1 + 1, 0, none⟩), undef, undef, Value.int IntKind.i64 x, Value.pointer q, Value.func (Fn.func 38) #[] #[Value.pointer (some ⟨w.heap.size, 0, none⟩)], Value.func (Fn.func 38) #[] #[Value.pointer (some ⟨w.heap.size, 0, none⟩)], Value.bool false, undef, Value.pointer q, Value.slice A ts.length c, Value.tuple #[], Value.func (Fn.func 38) #[] #[Value.pointer (some ⟨w.heap.size, 0, none⟩)], undef, undef, undef, undef, undef, Value.func (Fn.func 38) #[] #[Value.pointer (some ⟨w.heap.size, 0, none⟩)], undef, undef, undef, undef, undef, undef, undef, undef, Value.pointer q, Value.int IntKind.i64 n, Value.tuple #[], Value.func (Fn.func 38) #[] #[Value.pointer (some ⟨w.heap.size, 0, none⟩)], Value.int IntKind.i64 x, undef, undef, undef, undef, undef, undef, undef], defers := [] }) ?assign4 ?body4 ?done4 ?stop4
      case assign4 =>
        intro l x W K hK
        gi_wp2
        exact hK
      case stop4 => exact fun _ _ _ _ _ _ h => h.elim
      case body4 =>
        rintro l pre x W _ ⟨⟨v, hv, hR⟩, hf⟩ hlen
        have kv : W.cell? ⟨w.heap.size + 1 + 1 + 1, 0, none⟩ = some v := (blk_cell hv 0).trans rfl
        have HV := Lib.hid hv
        have HR := Lib.hid hR
        have HF := Lib.hid hf
        have HLEN := Lib.hid hlen
        clear hv hR hf hlen hBp3
        gi_wp2_with (gi_at_builtin; refine appIn (W := W) (base := w8.heap.size) rfl (.tmp 44) (.tmp 46) rfl v pre x rfl rfl HR.out HF.out.size (HBND3.out _ HLEN.out) ?_; intro v1 w1 ho hg hat hk; obtain ⟨A1, c1, rfl, kv1, kf1, hst⟩ := ThI.step HBX3.out HV.out HR.out HF.out ho hg hat hk; have HST := Lib.hid hst; clear ho hg hat hk hst)
        obtain ⟨s1, s2, s3, s4⟩ := HST.out
        exact ⟨s1, s2, trivial, s3⟩
      case done4 =>
        rintro D3 w9 hD3 _ hI3 hK3
        obtain ⟨hT9, hb9⟩ := hI3.stt (Star.ok (SlotA.ok _ _) (Star.ok (ObjA.ok _ _) (Star.ok (BoxA.ok _ _) (Star.ok (ObjA.ok _ _) (Star.ok (BoxA.ok _ _) (Star.ok (ObjA.ok _ _) hQ)))))) HU3.out (Nat.le_trans hbase (Nat.le_trans HSZ.out (Nat.le_trans HB7S.out HB8S.out))) hD3 hK3
        obtain ⟨v1, hv1, hT10⟩ := (hT9.imp (fun F h => h.up7)).unbox
        obtain ⟨v2, hv2, hT11⟩ := (hT10.imp (fun F h => h.up6)).unbox
        obtain ⟨v3, hv3, hT12⟩ := (hT11.imp (fun F h => h.up4)).unbox
        have kv1 : w9.cell? ⟨w.heap.size + 1, 0, none⟩ = some v1 := (blk_cell hv1 0).trans rfl
        have kv2 : w9.cell? ⟨w.heap.size + 1 + 1, 0, none⟩ = some v2 := (blk_cell hv2 0).trans rfl
        have kv3 : w9.cell? ⟨w.heap.size + 1 + 1 + 1, 0, none⟩ = some v3 := (blk_cell hv3 0).trans rfl
        have HT12 := Lib.hid hT12
        have HB9 := Lib.hid (HB8.out.trans hb9)
        have hI3S : Hid (w8.heap.size ≤ w9.heap.size) := Lib.hid hI3.2.size
        clear hT9 hT10 hT11 hT12 hb9 hI3 hK3 hv1 hv2 hv3 HT8 hBp3
        gi_wp2
        refine wpIn_wide.2 ?_
        go_quiet (fail)
        gi_wp2
        have hdq : Below w9.heap.size w9 (w9.drewN nq) := Drawn0.below ⟨⟨_, rfl⟩⟩
        have hok : Asr.Ok (Star (IntsA v3 (stPl (stCut n (stApp ts st))).reverse) (Star (IntsA v2 ((stPl (stApp ts st)).reverse.take 2)) (Star (IntsA v1 (stPl (stApp ts st)).reverse) (Star (ObjA D3 (.deferred (some []))) (Star (SlotA (.pointer q) (stCut n (stApp ts st))) (Star (ObjA D2 (.deferred (some []))) (Star (ObjA D1 (.deferred (some []))) (Star (ObjA w.heap.size (.cells #[.pointer q] 25)) Q)))))))) := Star.ok (IntsA.ok _ _) (Star.ok (IntsA.ok _ _) (Star.ok (IntsA.ok _ _) (Star.ok (ObjA.ok _ _) (Star.ok (SlotA.ok _ _) (Star.ok (ObjA.ok _ _) (Star.ok (ObjA.ok _ _) (Star.ok (ObjA.ok _ _) hQ)))))))
        have hE0 := (HT12.out.below hok hdq).imp (fun F h => h.up4)
        have hBE := HB9.out.trans (hdq.mono (by have := HB9.out.size; have := HSZ.out; have := HB7S.out; have := HB8S.out; have := hI3S.out; omega))
        have hk3 := hE0.obj
        obtain ⟨hE1, hb1⟩ := Stt.put (o' := .deferred none) (Star.ok (IntsA.ok _ _) (Star.ok (IntsA.ok _ _) (Star.ok (IntsA.ok _ _) (Star.ok (SlotA.ok _ _) (Star.ok (ObjA.ok _ _) (Star.ok (ObjA.ok _ _) (Star.ok (ObjA.ok _ _) hQ))))))) hE0
        have hE1 := hE1.imp (fun F h => h.up5)
        have hk2 := hE1.obj
        obtain ⟨hE2, hb2⟩ := Stt.put (o' := .deferred none) (Star.ok (IntsA.ok _ _) (Star.ok (IntsA.ok _ _) (Star.ok (IntsA.ok _ _) (Star.ok (SlotA.ok _ _) (Star.ok (ObjA.ok _ _) (Star.ok (ObjA.ok _ _) hQ)))))) hE1
        have hE2 := hE2.imp (fun F h => h.up5)
        have hk1 := hE2.obj
        obtain ⟨hE3, hb3⟩ := Stt.put (o' := .deferred none) (Star.ok (IntsA.ok _ _) (Star.ok (IntsA.ok _ _) (Star.ok (IntsA.ok _ _) (Star.ok (SlotA.ok _ _) (Star.ok (ObjA.ok _ _) hQ))))) hE2
        refine ⟨by simp, .inl ⟨_, _, rfl, run_takeDeferred hk3, ?_⟩⟩
        refine ⟨by simp, .inl ⟨_, _, rfl, run_takeDeferred hk2, ?_⟩⟩
        refine ⟨by simp, .inl ⟨_, _, rfl, run_takeDeferred hk1, ?_⟩⟩
        refine ⟨.tuple #[v1, v2, v3], by simp [results, Try.results36, go_sem], v1, v2, v3, rfl, ?_, ((hBE.trans hb1).trans hb2).trans hb3⟩
        exact hE3.imp (fun F h => h.up3.impR (fun F h => h.swap.impR (fun F h => h.impR (fun F h => h.impR (fun F h => Star.dropL hQ h)))))
end Go.Proofs.Ytjeofkobefeigaa.Wk
