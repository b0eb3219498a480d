/- Ngram's index: its map, its runs, what each of ahead, Append and places does. -/
import Derived.Test.YtjeofkobefeigaaProg
import Derived.DeepKeys5
import Derived.WideKeyEntry
import Derived.KernelRfl
import Derived.Test.YtjeofkobefeigaaWMore
import Derived.Test.YtjeofkobefeigaaPEqIntsx1
import Derived.Lib.Hide
import Derived.Deep.DeepCutAuto
import Derived.Deep.CutBlock
import Derived.Deep.QuietTactic
import Derived.BigQuiet
import Derived.WideLaws
import Derived.IntWalk
import Derived.StillTailTactics
import Derived.Laws.CopyOwn
import Derived.Deep.RegionLaw
import Derived.Deep.RegionHeld3
import Derived.ChangeKeysEq
set_option linter.unusedVariables false
set_option linter.unusedSimpArgs false
/- Maps keyed by a run of tokens: the key's law; one entry asked for and stored back; an entry looked up: at the entries as they lie. -/
namespace Go.Proofs.Ytjeofkobefeigaa.Mp
open Go.ChangeShapes Go.WideShapes Go.MapKept Go.ChangeMaps Go.WideMaps
open Go.WideElems (findIdx_born findIdx_arr modify_last set_self)

theorem laidOut : laidOutB Try.prog = true := by kernel_rfl
theorem keyLaw : KeyLaw Try.prog 72 := deep_law_gate laidOut (by decide +kernel) (by decide +kernel) (by kernel_rfl) (by rw [Try.underlying72])
/-- The key of a run of n tokens. -/
def keyV (n : Int) (f : Nat → Int) : Value := .agg #[.int .i64 n, .int .i64 (f 0), .int .i64 (f 1), .int .i64 (f 2), .int .i64 (f 3)]
theorem keyOf_keyV {n : Int} {f : Nat → Int} (hn : (Lit.int .i64 n).wf = true) (hf : ∀ j, (Lit.int .i64 (f j)).wf = true) : ∃ l, keyOf Try.prog 72 (keyV n f) = some l := by
  refine ⟨.string (keyBytes [.int .i64 n, .int .i64 (f 0), .int .i64 (f 1), .int .i64 (f 2), .int .i64 (f 3)]), ?_⟩
  have hsz : ∃ m, Try.prog.types.size = m + 3 := ⟨Try.prog.types.size - 3, by kernel_rfl⟩
  obtain ⟨m, hm⟩ := hsz
  have hkt : Try.prog.keyType 72 = true := by kernel_rfl
  have c3 : Try.prog.cellsOf 3 = 1 := by kernel_rfl
  have c70 : Try.prog.cellsOf 70 = 4 := by kernel_rfl
  have c72 : Try.prog.cellsOf 72 = 5 := by kernel_rfl
  unfold keyOf
  rw [Try.underlying72]
  dsimp only
  rw [if_pos (by simp [hkt, Value.formed, Try.underlying72, c72, keyV]), hm]
  simp [Program.keyLits, Try.underlying72, Try.underlying70, Try.underlying3, c3, c70, c72, keyV, Value.cells, hn, hf, List.range, List.range.loop]

theorem zero22 (w : World) : (zeroValue 22).run Try.prog w = .ok (.slice none 0 0) w := by
  have h := Try.zeroValue22
  simp [h]
/-- The keys of entries are keys. -/
def KeysOk (es : List MapEntry) : Prop := ∀ e ∈ es, ∃ l, keyOf Try.prog 72 e.key = some l
/-- Each entry's number is its own, and below the clock. -/
def Stamped (es : List MapEntry) (clock : Nat) : Prop := (∀ x ∈ es, x.born < clock) ∧ (es.map (·.born)).Nodup
theorem stamped_push {es : List MapEntry} {clock : Nat} (h : Stamped es clock) (key v : Value) : Stamped (es ++ [⟨key, v, clock⟩]) (clock + 1) := by
  obtain ⟨s1, s2⟩ := h
  refine ⟨fun x hx => ?_, ?_⟩
  · rcases List.mem_append.1 hx with hx | hx
    · have := s1 x hx; omega
    · obtain rfl := List.mem_singleton.1 hx
      show clock < clock + 1
      omega
  · rw [List.map_append]
    refine List.nodup_append.2 ⟨s2, by simp, fun a ha c hc e1 => ?_⟩
    simp only [List.map_cons, List.map_nil, List.mem_singleton] at hc
    obtain ⟨x, hx, rfl⟩ := List.mem_map.1 ha
    have := s1 x hx
    omega
/-- 'm[k] = ..m[k]..' where k is no key yet. -/
theorem entry_new {w : World} {b : Nat} {es : Array MapEntry} {clock : Nat} (hb : w.heap[b]? = some (.map es clock)) (hk : KeysOk es.toList) (hst : Stamped es.toList clock) {key : Value} (hkey : ∃ l, keyOf Try.prog 72 key = some l) (hno : ∀ e ∈ es.toList, e.key ≠ key) :
    (Instr.mapEntry 66 (.map (some b)) key).run Try.prog w = .ok (.tuple #[.slice none 0 0, goInt clock]) (setBlock w b (.map (es.push ⟨key, .slice none 0 0, clock⟩) (clock + 1))) ∧
      ∀ (w2 : World) (val : Value), w2.heap[b]? = some (.map (es.push ⟨key, .slice none 0 0, clock⟩) (clock + 1)) → (Instr.entryStore 66 (.map (some b)) (goInt clock) val).run Try.prog w2 = .ok () (setBlock w2 b (.map (es.push ⟨key, val, clock⟩) (clock + 1))) := by
  obtain ⟨kl, hkey⟩ := hkey
  obtain ⟨s1, s2⟩ := hst
  rcases keyLaw.find w hkey es.toList hk with ⟨h1, _⟩ | ⟨j, e0, _, h2, h3⟩
  · refine ⟨by simp [Instr.mapEntry, run_underlying Try.underlying66, MapKept.run_getObj_map hb, keyLaw.check w false hkey, h1, zero22, MapKept.run_setObj_map _ hb, Result.andThen, setBlock], fun w2 val hw2 => ?_⟩
    have hidx : (es.push ⟨key, .slice none 0 0, clock⟩).findIdx? (fun e => ((e.born : Nat) : Int) == ((clock : Nat) : Int)) = some es.size := by
      rw [findIdx_arr]
      exact findIdx_born (l := (es.push ⟨key, .slice none 0 0, clock⟩).toList) (j := es.size) (e0 := ⟨key, .slice none 0 0, clock⟩) (by
        rw [Array.toList_push]; exact (stamped_push ⟨s1, s2⟩ key _).2) (by simp)
    have hmod : (es.push ⟨key, .slice none 0 0, clock⟩).modify es.size (fun e => { e with val := val }) = es.push ⟨key, val, clock⟩ := by
      apply Array.ext'
      rw [Array.toList_modify, Array.toList_push, Array.toList_push, ← Array.length_toList, modify_last]
    simp [Instr.entryStore, MapKept.run_getObj_map hw2, asInt, asIntOf, goInt, hidx, hmod, MapKept.run_setObj_map _ hw2, Result.andThen, setBlock]
  · exact absurd h3 (hno e0 (List.mem_of_getElem? h2))
/-- 'm[k] = ..m[k]..' where k is a key. -/
theorem entry_old {w : World} {b : Nat} {es : Array MapEntry} {clock : Nat} (hb : w.heap[b]? = some (.map es clock)) (hk : KeysOk es.toList) (hst : Stamped es.toList clock) {key : Value} (hkey : ∃ l, keyOf Try.prog 72 key = some l) (hyes : ∃ e ∈ es.toList, e.key = key) :
    ∃ (j : Nat) (e0 : MapEntry), es.toList[j]? = some e0 ∧ e0.key = key ∧ (Instr.mapEntry 66 (.map (some b)) key).run Try.prog w = .ok (.tuple #[e0.val, goInt e0.born]) (setBlock w b (.map es clock)) ∧
      ∀ (w2 : World) (val : Value), w2.heap[b]? = some (.map es clock) → (Instr.entryStore 66 (.map (some b)) (goInt e0.born) val).run Try.prog w2 = .ok () (setBlock w2 b (.map (es.modify j (fun e => { e with val := val })) clock)) := by
  obtain ⟨kl, hkey⟩ := hkey
  obtain ⟨s1, s2⟩ := hst
  rcases keyLaw.find w hkey es.toList hk with ⟨_, h2⟩ | ⟨j, e0, h1, h2, h3⟩
  · obtain ⟨e, he, h⟩ := hyes
    exact absurd h (h2 e he)
  · have hj : es[j]? = some e0 := by simpa using h2
    have hsame : es.modify j (fun e => { e with key := key }) = es := by
      apply Array.ext'
      rw [Array.toList_modify, modify_eq_set _ _ _ _ h2]
      have : ({ e0 with key := key } : MapEntry) = e0 := by rw [← h3]
      rw [this]
      exact set_self _ _ _ h2
    refine ⟨j, e0, h2, h3, ?_, fun w2 val hw2 => ?_⟩
    · simp [Instr.mapEntry, run_underlying Try.underlying66, MapKept.run_getObj_map hb, keyLaw.check w false hkey, h1, hj, h3, keyLaw.stays w hkey, hsame, MapKept.run_setObj_map _ hb, Result.andThen, setBlock]
    · have hidx : es.findIdx? (fun e => ((e.born : Nat) : Int) == ((e0.born : Nat) : Int)) = some j := by
        rw [findIdx_arr]
        exact findIdx_born s2 h2
      simp [Instr.entryStore, MapKept.run_getObj_map hw2, asInt, asIntOf, goInt, hidx, MapKept.run_setObj_map _ hw2, Result.andThen, setBlock]
/-- An entry looked up. -/
theorem look {w : World} {b : Nat} {es : Array MapEntry} {clock : Nat} (hb : w.heap[b]? = some (.map es clock)) (hk : KeysOk es.toList) {key : Value} (hkey : ∃ l, keyOf Try.prog 72 key = some l) :
    ((∀ e ∈ es.toList, e.key ≠ key) ∧ (Instr.lookup 66 (.map (some b)) key false).run Try.prog w = .ok (.slice none 0 0) w) ∨
      ∃ (j : Nat) (e0 : MapEntry), es.toList[j]? = some e0 ∧ e0.key = key ∧ (Instr.lookup 66 (.map (some b)) key false).run Try.prog w = .ok e0.val w := by
  obtain ⟨kl, hkey⟩ := hkey
  rcases keyLaw.find w hkey es.toList hk with ⟨h1, h2⟩ | ⟨j, e0, h1, h2, h3⟩
  · exact .inl ⟨h2, by simp [Instr.lookup, run_underlying Try.underlying66, MapKept.run_getObj_map hb, keyLaw.check w _ hkey, h1, zero22, Result.andThen]⟩
  · exact .inr ⟨j, e0, h2, h3, by simp [Instr.lookup, run_underlying Try.underlying66, MapKept.run_getObj_map hb, keyLaw.check w _ hkey, h1, zero22, Result.andThen]⟩
end Go.Proofs.Ytjeofkobefeigaa.Mp
/- The walk of ngram's ahead: the run of n tokens ahead of a place. -/
namespace Go.Proofs.Ytjeofkobefeigaa.Wk
open Go.RowKit Go.Proofs.YtjeofkobefeigaaW.PrintWords Go.Proofs.YtjeofkobefeigaaW.PrintLast Go.Proofs.YtjeofkobefeigaaW.PrintMore Go.Proofs.Ytjeofkobefeigaa.Mp
attribute [local go_sem] max2_int min2_int max_two min_two

/-- The number at a place; 0 beyond. -/
def nth (l : List Int) (i : Nat) : Int := l.getD i 0
theorem rd_nth (l : List Int) (i : Nat) : rd l (i : Int) = nth l i := by
  unfold rd nth; rfl
/-- The run of n tokens ahead of a place. -/
def runF (t : List Int) (p n j : Nat) : Int := if j < n then nth t (p - n + j) else 0

theorem info3 : (Try.prog.info? 3).map (fun i => (i.zero, i.size, i.bytes)) = some (some (.int .i64 0), 1, 8) := by kernel_rfl
set_option maxHeartbeats 2000000 in
theorem ahead_calls {B m : Nat} {most : Int} {At : Option Addr} {ct : Nat} {t : List Int} (w : World) (hB : w.heap[B]? = some (.cells #[.int .i64 most, .slice At t.length ct, .map (some m)] 68 (0, 0))) (hC : Kd.C (Kd.int .i64) w At t.length t) (hc : t.length ≤ ct)
    {p n : Nat} (h1 : 1 ≤ n) (h4 : n ≤ 4) (hnp : n ≤ p) (hp : p ≤ t.length) :
    Calls Try.prog 37 #[.pointer (some ⟨B, 0, none⟩), .int .i64 p, .int .i64 n] w fun e w' => e = .returned (keyV n (runF t p n)) ∧ Below w.heap.size w w' := by
  have HB := Lib.hid hB
  have HC := Lib.hid hC
  have k1 : w.cell? ⟨B, 1, none⟩ = some (.slice At t.length ct) := (blk_cell hB 1).trans rfl
  have hlt : B < w.heap.size := blk_lt hB
  clear hB hC
  go_enter Try.func37, Try.ntmps37
  go_upto_region 2 with (fail)
  obtain ⟨wq, hwq⟩ : ∃ x, x = (w.alloc (.cells #[.int .i64 0, .int .i64 0, .int .i64 0, .int .i64 0, .int .i64 0] 72)).alloc (.cells #[.int .i64 n, .int .i64 0, .int .i64 0, .int .i64 0, .int .i64 0] 72) := ⟨_, rfl⟩
  rw [← hwq]
  obtain ⟨g6, hg6⟩ : ∃ x, x = w.heap.size := ⟨_, rfl⟩
  rw [← hg6]
  have b6 : wq.heap[g6]? = some (.cells #[.int .i64 0, .int .i64 0, .int .i64 0, .int .i64 0, .int .i64 0] 72 (0, 0)) := by rw [hwq, hg6]; exact blk_alloc (blk_new _ _) _
  have b7 : wq.heap[g6 + 1]? = some (.cells #[.int .i64 n, .int .i64 0, .int .i64 0, .int .i64 0, .int .i64 0] 72 (0, 0)) := by
    rw [hwq, hg6]
    have := blk_new (w.alloc (.cells #[.int .i64 0, .int .i64 0, .int .i64 0, .int .i64 0, .int .i64 0] 72)) (.cells #[.int .i64 n, .int .i64 0, .int .i64 0, .int .i64 0, .int .i64 0] 72)
    rwa [show (w.alloc (.cells #[.int .i64 0, .int .i64 0, .int .i64 0, .int .i64 0, .int .i64 0] 72)).heap.size = w.heap.size + 1 from Array.size_push _] at this
  have hwb : Below w.heap.size w wq := by rw [hwq]; exact below_alloc (below_alloc (Below.refl _ _) _) _
  have B6 := Lib.hid b6
  have B7 := Lib.hid b7
  have HW := Lib.hid hwb
  have HGG := Lib.hid hg6
  have k1 : wq.cell? ⟨B, 1, none⟩ = some (.slice At t.length ct) := pw_cell_below hwb k1
  obtain ⟨lo, hlo⟩ : ∃ lo, lo = p - n := ⟨_, rfl⟩
  have e1 : IntKind.i64.wrap ((p : Int) - (n : Int)) = (lo : Int) := by rw [IntWalk.i64_in _ (by have := Kd.C_max HC.out; omega)]; omega
  obtain ⟨i0, hi0, _, hsz, _⟩ := info_parts info3
  have hcut := cut_mid (P := Try.prog) 22 3 .i64 .i64 Try.underlying22 hi0 1 hsz At t.length ct (lo : Int) (p : Int) (by omega) (by omega) (by omega) hc
  rw [Int.toNat_natCast, Int.toNat_natCast, show p - lo = n by omega] at hcut
  obtain ⟨As, hAs⟩ : ∃ As, (if ct = lo then At else At.map (·.add (lo * 1))) = As := ⟨_, rfl⟩
  rw [hAs] at hcut
  have HLO := Lib.hid hlo
  have HAS := Lib.hid hAs
  clear hwq b6 b7 hwb hi0 hsz hg6 hlo hAs
  go_still_tail 11, (by kernel_rfl)
  change wpList _ _ _ _ _ wq.drew
  have hsrc : ∃ ad, As = some ad ∧ ∀ j, j < n → wq.drew.cell? (ad.add j) = some (.int .i64 (runF t p n j)) := by
    have hC2 := Kd.C_mid (k := Kd.int .i64) (xs := t) (c := ct) (lo := lo) (hi := p) (Kd.C_below HC.out HW.out) (by have := HLO.out; omega) hp hc
    have hl : ((t.take p).drop lo).length = n := by rw [List.length_drop, List.length_take]; have := HLO.out; omega
    rw [hl] at hC2
    have hA2 : (if ct = lo then At else At.map (·.add (lo * (Kd.int .i64).sz))) = As := HAS.out
    rw [hA2] at hC2
    obtain ⟨ad, e, _⟩ := hC2.2.2 (by omega)
    refine ⟨ad, e, fun j hj => ?_⟩
    obtain ⟨ad2, e2, h2⟩ := Kd.at_int hC2 (j : Int) (by omega) (by omega)
    rw [e] at e2
    injection e2 with e2
    subst e2
    rw [rd_nth, Int.toNat_natCast] at h2
    have hv : nth ((t.take p).drop lo) j = runF t p n j := by
      unfold nth runF nth
      rw [if_pos hj, List.getD_eq_getElem?_getD, List.getD_eq_getElem?_getD, List.getElem?_drop, List.getElem?_take, if_pos (by have := HLO.out; omega), HLO.out]
    rw [hv] at h2
    exact h2
  refine wpList_copy_splice rfl (.tmp 11) (.tmp 20) 22 22 rfl 3 Try.underlying22 (by kernel_rfl) (some ⟨g6 + 1, 1, none⟩) As 4 4 n (ct - lo) rfl rfl (g6 + 1) 1 [.int .i64 n, .int .i64 0, .int .i64 0, .int .i64 0, .int .i64 0] 72 B7.out ((List.range n).map fun j => .int .i64 (runF t p n j)) (by rw [List.length_map, List.length_range]; exact (Nat.min_eq_left h4).symm) (fun _ => ⟨rfl, ?_⟩) (by simp; omega) (by simp [Value.oneCell']) (g6 + 1) wq.drew (Below.refl _ _) (Nat.le_refl _) ?_
  · obtain ⟨ad, e, h⟩ := hsrc
    refine ⟨ad, e, fun j v hv => ?_⟩
    rw [List.getElem?_map] at hv
    obtain ⟨q, hq, rfl⟩ := Option.map_eq_some_iff.1 hv
    obtain ⟨hq1, hq2⟩ := List.getElem?_eq_some_iff.1 hq
    rw [List.length_range] at hq1
    rw [List.getElem_range] at hq2
    subst hq2
    exact h j hq1
  · intro w' hg hb
    have hs : splice [.int .i64 (n : Int), .int .i64 0, .int .i64 0, .int .i64 0, .int .i64 0] 1 ((List.range n).map fun j => Value.int .i64 (runF t p n j)) = [.int .i64 n, .int .i64 (runF t p n 0), .int .i64 (runF t p n 1), .int .i64 (runF t p n 2), .int .i64 (runF t p n 3)] := by
      rcases (show n = 1 ∨ n = 2 ∨ n = 3 ∨ n = 4 by omega) with rfl | rfl | rfl | rfl <;> simp [splice, runF, List.range, List.range.loop]
    have h7 := hg.out
    rw [hs] at h7
    have h6 : w'.heap[g6]? = some (.cells #[.int .i64 0, .int .i64 0, .int .i64 0, .int .i64 0, .int .i64 0] 72 (0, 0)) := (hb.block g6 (by omega)).trans B6.out
    have hbb : Below w.heap.size w w' := HW.out.trans ((below_drew (Below.refl w.heap.size wq)).trans (hb.mono (by have := HGG.out; omega)))
    have HBB := Lib.hid hbb
    obtain ⟨r0, hr0⟩ : ∃ x, runF t p n 0 = x := ⟨_, rfl⟩
    obtain ⟨r1, hr1⟩ : ∃ x, runF t p n 1 = x := ⟨_, rfl⟩
    obtain ⟨r2, hr2⟩ : ∃ x, runF t p n 2 = x := ⟨_, rfl⟩
    obtain ⟨r3, hr3⟩ : ∃ x, runF t p n 3 = x := ⟨_, rfl⟩
    have HK : Hid (Value.agg #[.int .i64 n, .int .i64 r0, .int .i64 r1, .int .i64 r2, .int .i64 r3] = keyV n (runF t p n)) := Lib.hid (by rw [← hr0, ← hr1, ← hr2, ← hr3]; rfl)
    rw [hr0, hr1, hr2, hr3] at h7
    have H7 := Lib.hid h7
    have H6 := Lib.hid h6
    have c0 : w'.cell? ⟨g6 + 1, 0, none⟩ = some (.int .i64 n) := (blk_cell h7 0).trans rfl
    have c1 : w'.cell? ⟨g6 + 1, 1, none⟩ = some (.int .i64 r0) := (blk_cell h7 1).trans rfl
    have c2 : w'.cell? ⟨g6 + 1, 2, none⟩ = some (.int .i64 r1) := (blk_cell h7 2).trans rfl
    have c3 : w'.cell? ⟨g6 + 1, 3, none⟩ = some (.int .i64 r2) := (blk_cell h7 3).trans rfl
    have c4 : w'.cell? ⟨g6 + 1, 4, none⟩ = some (.int .i64 r3) := (blk_cell h7 4).trans rfl
    have d0 : w'.cell? ⟨g6, 0, none⟩ = some (.int .i64 0) := (blk_cell h6 0).trans rfl
    have d1 : w'.cell? ⟨g6, 1, none⟩ = some (.int .i64 0) := (blk_cell h6 1).trans rfl
    have d2 : w'.cell? ⟨g6, 2, none⟩ = some (.int .i64 0) := (blk_cell h6 2).trans rfl
    have d3 : w'.cell? ⟨g6, 3, none⟩ = some (.int .i64 0) := (blk_cell h6 3).trans rfl
    have d4 : w'.cell? ⟨g6, 4, none⟩ = some (.int .i64 0) := (blk_cell h6 4).trans rfl
    have f0 := blk_frozen h6 0
    have f1 := blk_frozen h6 1
    have f2 := blk_frozen h6 2
    have f3 := blk_frozen h6 3
    have f4 := blk_frozen h6 4
    clear hs h7 h6 hb hbb hg hsrc hcut e1 k1 hr0 hr1 hr2 hr3
    go_wp2
    have z := blk_put (blk_put (blk_put (blk_put (blk_put H6.out 0 (.int .i64 n) rfl) 1 (.int .i64 r0) rfl) 2 (.int .i64 r1) rfl) 3 (.int .i64 r2) rfl) 4 (.int .i64 r3) rfl
    have hZ : Below w.heap.size w (((((w'.setCell ⟨g6, 0, none⟩ (.int .i64 n)).setCell ⟨g6, 1, none⟩ (.int .i64 r0)).setCell ⟨g6, 2, none⟩ (.int .i64 r1)).setCell ⟨g6, 3, none⟩ (.int .i64 r2)).setCell ⟨g6, 4, none⟩ (.int .i64 r3)) := by
      have hg : w.heap.size ≤ g6 := by rw [HGG.out]; exact Nat.le_refl _
      exact below_set (below_set (below_set (below_set (below_set HBB.out hg) hg) hg) hg) hg
    exact bodyPost_ret (results_single (r := .cell 6 72) rfl (.cell g6 72 _ (0, 0) _ rfl z Try.underlying72 rfl (by kernel_rfl) .nil)) rfl ⟨by rw [← HK.out]; rfl, hZ⟩
end Go.Proofs.Ytjeofkobefeigaa.Wk
/- An index as it lies: its block, its own row of tokens, its map of own rows; what its rows hold is a function of the run. -/
namespace Go.Proofs.Ytjeofkobefeigaa.Wk
open Go.RowKit Go.Proofs.YtjeofkobefeigaaW.PrintWords Go.Proofs.YtjeofkobefeigaaW.PrintLast Go.Proofs.YtjeofkobefeigaaW.PrintMore Go.Proofs.Ytjeofkobefeigaa.Mp
open Go.ChangeMaps (setBlock)

/-- Two own rows in different blocks. -/
def Apart (u v : Value) : Prop := ∀ k, u.ownBlock = some k → some k ≠ v.ownBlock
theorem Apart.symm {u v : Value} (h : Apart u v) : Apart v u := fun k hk e => h k e.symm hk.symm
theorem Apart.after {u v v1 : Value} {W : World} (h : Apart v u) (hlt : ∀ k, u.ownBlock = some k → k < W.heap.size) (hat : v1.ownBlock = v.ownBlock ∨ ∃ b, v1.ownBlock = some b ∧ W.heap.size ≤ b) : Apart v1 u := by
  intro k hk e
  rcases hat with hat | ⟨b, hb, hle⟩
  · exact h k (hat ▸ hk) e
  · rw [hb] at hk
    injection hk with hk
    subst hk
    have := hlt b e.symm
    omega
/-- A run of one to four tokens. -/
def Gram (g : List Int) : Prop := 1 ≤ g.length ∧ g.length ≤ 4 ∧ ∀ x ∈ g, (Lit.int .i64 x).wf = true
def keyG (g : List Int) : Value := keyV g.length (nth g)
theorem nth_wf {g : List Int} (h : ∀ x ∈ g, (Lit.int .i64 x).wf = true) (j : Nat) : (Lit.int .i64 (nth g j)).wf = true := by
  unfold nth
  rw [List.getD_eq_getElem?_getD]
  cases e : g[j]? with
  | none => decide
  | some x => exact h x (List.mem_of_getElem? e)
theorem key_ok {g : List Int} (h : Gram g) : ∃ l, keyOf Try.prog 72 (keyG g) = some l :=
  keyOf_keyV (by
    obtain ⟨h1, h2, _⟩ := h
    rcases (show g.length = 1 ∨ g.length = 2 ∨ g.length = 3 ∨ g.length = 4 by omega) with e | e | e | e <;> (rw [e]; decide)) (nth_wf h.2.2)
theorem keyG_inj {g g' : List Int} (h : Gram g) (h' : Gram g') (e : keyG g = keyG g') : g = g' := by
  unfold keyG keyV at e
  simp only [Value.agg.injEq, Array.mk.injEq, List.cons.injEq, Value.int.injEq, true_and, and_true] at e
  obtain ⟨el, e0, e1, e2, e3⟩ := e
  have el : g.length = g'.length := by omega
  refine List.ext_getElem el fun j h1 h2 => ?_
  have hj : nth g j = nth g' j := by
    have := h.2.1
    rcases (show j = 0 ∨ j = 1 ∨ j = 2 ∨ j = 3 by omega) with rfl | rfl | rfl | rfl <;> assumption
  unfold nth at hj
  rwa [List.getD_eq_getElem?_getD, List.getD_eq_getElem?_getD, List.getElem?_eq_getElem h1, List.getElem?_eq_getElem h2] at hj
/-- The run of n tokens ahead of place p. -/
def gramAt (t : List Int) (p n : Nat) : List Int := (t.take p).drop (p - n)
theorem gramAt_length {t : List Int} {p n : Nat} (h : n ≤ p) (hp : p ≤ t.length) : (gramAt t p n).length = n := by
  unfold gramAt
  rw [List.length_drop, List.length_take]; omega
theorem gramAt_gram {t : List Int} {p n : Nat} (ht : ∀ x ∈ t, (Lit.int .i64 x).wf = true) (h1 : 1 ≤ n) (h4 : n ≤ 4) (h : n ≤ p) (hp : p ≤ t.length) : Gram (gramAt t p n) :=
  ⟨by rw [gramAt_length h hp]; exact h1, by rw [gramAt_length h hp]; exact h4, fun x hx => ht x (List.mem_of_mem_take (List.mem_of_mem_drop hx))⟩
theorem key_run {t : List Int} {p n : Nat} (h : n ≤ p) (hp : p ≤ t.length) : keyV n (runF t p n) = keyG (gramAt t p n) := by
  have hv : ∀ j, runF t p n j = nth (gramAt t p n) j := fun j => by
    unfold runF nth gramAt
    rw [List.getD_eq_getElem?_getD, List.getD_eq_getElem?_getD, List.getElem?_drop, List.getElem?_take]
    by_cases c : j < n
    · rw [if_pos c, if_pos (by omega)]
    · rw [if_neg c, if_neg (by omega)]; rfl
  unfold keyG keyV
  rw [gramAt_length h hp, hv 0, hv 1, hv 2, hv 3]
/-- The entries: each the own row of a run's places. -/
structure EndsOk (w : World) (F : Nat → Prop) (es : List MapEntry) (O : List Int → List Int) (tv : Value) : Prop where
  row : ∀ (j : Nat) (e : MapEntry), es[j]? = some e → ∃ g, Gram g ∧ e.key = keyG g ∧ Kd.R (Kd.int .i64) 3 w 0 F e.val (O g)
  none : ∀ g, Gram g → (∀ e ∈ es, e.key ≠ keyG g) → O g = []
  keys : (es.map (·.key)).Nodup
  apart : ∀ (i j : Nat) (e e' : MapEntry), i ≠ j → es[i]? = some e → es[j]? = some e' → Apart e.val e'.val
  text : ∀ e ∈ es, Apart tv e.val
theorem EndsOk.keysOk {w : World} {F : Nat → Prop} {es : List MapEntry} {O : List Int → List Int} {tv : Value} (h : EndsOk w F es O tv) : KeysOk es := fun e he => by
  obtain ⟨j, hj⟩ := List.mem_iff_getElem?.1 he
  obtain ⟨g, hg, hk, _⟩ := h.row j e hj
  rw [hk]
  exact key_ok hg
theorem EndsOk.below {w w1 : World} {F : Nat → Prop} {es : List MapEntry} {O : List Int → List Int} {tv : Value} (h : EndsOk w F es O tv) (hb : Below w.heap.size w w1) : EndsOk w1 F es O tv :=
  ⟨fun j e he => by obtain ⟨g, h1, h2, h3⟩ := h.row j e he; exact ⟨g, h1, h2, Kd.R_below h3 hb⟩, h.none, h.keys, h.apart, h.text⟩
theorem EndsOk.weaken {w : World} {F F' : Nat → Prop} {es : List MapEntry} {O : List Int → List Int} {tv : Value} (h : EndsOk w F es O tv) (hF : ∀ k, F k → F' k) : EndsOk w F' es O tv :=
  ⟨fun j e he => by obtain ⟨g, h1, h2, h3⟩ := h.row j e he; exact ⟨g, h1, h2, Kd.R_mono h3 hF⟩, h.none, h.keys, h.apart, h.text⟩
/-- An index: its block B, its map m, of runs of up to most tokens, over the text t. -/
structure Idx (w : World) (F : Nat → Prop) (B m : Nat) (most : Int) (t : List Int) (O : List Int → List Int) : Prop where
  ex : ∃ (tv : Value) (es : Array MapEntry) (clock : Nat), w.heap[B]? = some (.cells #[.int .i64 most, tv, .map (some m)] 68 (0, 0)) ∧ Kd.R (Kd.int .i64) 3 w 0 F tv t ∧
    w.heap[m]? = some (.map es clock) ∧ Stamped es.toList clock ∧ EndsOk w F es.toList O tv
  fB : F B
  fm : F m
theorem Idx.below {w w1 : World} {F : Nat → Prop} {B m : Nat} {most : Int} {t : List Int} {O : List Int → List Int} (h : Idx w F B m most t O) (hb : Below w.heap.size w w1) : Idx w1 F B m most t O := by
  obtain ⟨⟨tv, es, clock, h1, h2, h3, h4, h5⟩, fB, fm⟩ := h
  exact ⟨⟨tv, es, clock, blk_below h1 hb, Kd.R_below h2 hb, blk_below h3 hb, h4, h5.below hb⟩, fB, fm⟩
/-- Only the blocks of F may have turned. -/
structure Fr (F : Nat → Prop) (w w' : World) : Prop where
  os : w'.os = w.os
  tape : w'.tape = w.tape
  output : w'.output = w.output
  size : w.heap.size ≤ w'.heap.size
  block : ∀ k, k < w.heap.size → ¬ F k → w'.heap[k]? = w.heap[k]?
theorem Fr.refl (F : Nat → Prop) (w : World) : Fr F w w := ⟨rfl, rfl, rfl, Nat.le_refl _, fun _ _ _ => rfl⟩
theorem Fr.trans {F : Nat → Prop} {a b c : World} (h : Fr F a b) (k : Fr F b c) : Fr F a c :=
  ⟨k.os.trans h.os, k.tape.trans h.tape, k.output.trans h.output, Nat.le_trans h.size k.size, fun i hi hf => (k.block i (Nat.lt_of_lt_of_le hi h.size) hf).trans (h.block i hi hf)⟩
theorem Fr.of_below {F : Nat → Prop} {a b : World} (h : Below a.heap.size a b) : Fr F a b := ⟨h.os, h.tape, h.output, h.size, fun i hi _ => h.block i hi⟩
theorem Fr.of_grown {F : Nat → Prop} {a b : World} {row : Option Nat} (h : a.grownBy b row) (hF : ∀ k, row = some k → F k) : Fr F a b :=
  ⟨h.os, h.tape, h.output, h.size, fun i hi hf => h.block i hi (fun e => hf (hF i e.symm))⟩
theorem Fr.below {F : Nat → Prop} {a b : World} {B : Nat} (h : Fr F a b) (hF : ∀ k, F k → B ≤ k) (hB : B ≤ a.heap.size) : Below B a b :=
  ⟨h.os, h.tape, h.output, h.size, fun i hi => h.block i (Nat.lt_of_lt_of_le hi hB) (fun hf => by have := hF i hf; omega)⟩
end Go.Proofs.Ytjeofkobefeigaa.Wk
/- Where a run stands in a text; the entries with one place more. -/
namespace Go.Proofs.Ytjeofkobefeigaa.Wk
open Go.RowKit Go.Proofs.YtjeofkobefeigaaW.PrintWords Go.Proofs.YtjeofkobefeigaaW.PrintLast Go.Proofs.YtjeofkobefeigaaW.PrintMore Go.Proofs.Ytjeofkobefeigaa.Mp
open Go.ChangeMaps (setBlock)
open Go.WideElems (modify_last set_self)

/-- Does the run g stand ahead of place q? -/
def at? (t g : List Int) (q : Nat) : Bool := decide (g.length ≤ q) && decide (gramAt t q g.length = g)
/-- The places ahead of which the run g stands, rising. -/
def occ (t g : List Int) : List Int := ((List.range (t.length + 1)).filter (at? t g)).map fun q : Nat => (q : Int)
theorem gramAt_snoc {t : List Int} {x : Int} {q n : Nat} (h : q ≤ t.length) : gramAt (t ++ [x]) q n = gramAt t q n := by
  unfold gramAt
  rw [List.take_append_of_le_length h]
theorem occ_snoc (t g : List Int) (x : Int) : occ (t ++ [x]) g = occ t g ++ (if at? (t ++ [x]) g (t.length + 1) = true then [((t.length + 1 : Nat) : Int)] else []) := by
  unfold occ
  rw [List.length_append, List.length_singleton, List.range_succ, List.filter_append, List.map_append]
  congr 1
  · congr 1
    refine List.filter_congr fun q hq => ?_
    have := List.mem_range.1 hq
    unfold at?
    rw [gramAt_snoc (by omega)]
  · by_cases c : at? (t ++ [x]) g (t.length + 1) = true
    · rw [if_pos c]; simp [List.filter, c]
    · rw [if_neg c]
      have c' : at? (t ++ [x]) g (t.length + 1) = false := by simpa using c
      simp [List.filter, c']
theorem occ_length (t g : List Int) : (occ t g).length ≤ t.length + 1 := by
  unfold occ
  rw [List.length_map]
  exact Nat.le_trans (List.length_filter_le _ _) (by rw [List.length_range]; exact Nat.le_refl _)
/-- The rows of an index of runs of up to most. -/
def ocM (most : Nat) (t g : List Int) : List Int := if g.length ≤ most then occ t g else []
/-- .. while a token is appended, behind the runs of less than n tokens. -/
def ocN (most n : Nat) (t : List Int) (x : Int) (g : List Int) : List Int := if g.length ≤ most then (if g.length < n then occ (t ++ [x]) g else occ t g) else []
def updO (O : List Int → List Int) (g l : List Int) (g' : List Int) : List Int := if g' = g then l else O g'
theorem ocN_one (most : Nat) (t : List Int) (x : Int) {g : List Int} (hg : Gram g) : ocN most 1 t x g = ocM most t g := by
  unfold ocN ocM
  have := hg.1
  rw [if_neg (show ¬ g.length < 1 by omega)]
theorem ocN_step {most n : Nat} {t : List Int} {x : Int} (h1 : 1 ≤ n) (hm : n ≤ most) (hp : n ≤ t.length + 1) (g : List Int) :
    updO (ocN most n t x) (gramAt (t ++ [x]) (t.length + 1) n) (ocN most n t x (gramAt (t ++ [x]) (t.length + 1) n) ++ [((t.length + 1 : Nat) : Int)]) g = ocN most (n + 1) t x g := by
  have hl : (gramAt (t ++ [x]) (t.length + 1) n).length = n := gramAt_length hp (by simp)
  unfold updO
  by_cases c : g = gramAt (t ++ [x]) (t.length + 1) n
  · subst c
    rw [if_pos rfl]
    unfold ocN
    rw [hl, if_pos hm, if_pos hm, if_neg (show ¬ n < n by omega), if_pos (show n < n + 1 by omega), occ_snoc, if_pos]
    unfold at?
    rw [hl]
    simp [hp]
  · rw [if_neg c]
    unfold ocN
    by_cases c1 : g.length ≤ most
    · rw [if_pos c1, if_pos c1]
      by_cases c2 : g.length < n
      · rw [if_pos c2, if_pos (by omega)]
      · rw [if_neg c2]
        by_cases c3 : g.length < n + 1
        · rw [if_pos c3, occ_snoc, if_neg, List.append_nil]
          have e : g.length = n := by omega
          unfold at?
          rw [e]
          simp
          exact fun _ h => c h.symm
        · rw [if_neg c3]
    · rw [if_neg c1, if_neg c1]
theorem ocN_last {most n : Nat} {t : List Int} {x : Int} (h : most < n ∨ t.length + 1 < n) (g : List Int) : ocN most n t x g = ocM most (t ++ [x]) g := by
  unfold ocN ocM
  by_cases c1 : g.length ≤ most
  · rw [if_pos c1, if_pos c1]
    by_cases c2 : g.length < n
    · rw [if_pos c2]
    · rw [if_neg c2, occ_snoc, if_neg, List.append_nil]
      unfold at?
      have : ¬ g.length ≤ t.length + 1 := by omega
      simp [this]
  · rw [if_neg c1, if_neg c1]
theorem EndsOk.congr {w : World} {F : Nat → Prop} {es : List MapEntry} {O O' : List Int → List Int} {tv : Value} (h : EndsOk w F es O tv) (hO : ∀ g, Gram g → O g = O' g) : EndsOk w F es O' tv :=
  ⟨fun j e he => by obtain ⟨g, h1, h2, h3⟩ := h.row j e he; exact ⟨g, h1, h2, by rw [← hO g h1]; exact h3⟩, fun g hg hn => by rw [← hO g hg]; exact h.none g hg hn, h.keys, h.apart, h.text⟩
theorem setBlock_other {w : World} {b k : Nat} {o : Obj} (h : k ≠ b) : (setBlock w b o).heap[k]? = w.heap[k]? := by
  unfold setBlock
  simp only [Array.getElem?_setIfInBounds]
  rw [if_neg (by omega)]
theorem setBlock_at {w : World} {b : Nat} {o : Obj} (h : b < w.heap.size) : (setBlock w b o).heap[b]? = some o := by
  unfold setBlock
  simp only [Array.getElem?_setIfInBounds]
  rw [if_pos trivial, if_pos h]
theorem R_ne_map {w : World} {F : Nat → Prop} {v : Value} {xs : List Int} (h : Kd.R (Kd.int .i64) 3 w 0 F v xs) {m : Nat} {es : Array MapEntry} {clock : Nat} (hm : w.heap[m]? = some (.map es clock)) : ∀ k, v.ownBlock = some k → k ≠ m := fun k hk e => by
  obtain ⟨_, inner, ⟨_, ho⟩, _⟩ := h
  rcases ho with ⟨rfl, _⟩ | ⟨g, cap, cur, rfl, _, hc, _⟩
  · cases hk
  · injection hk with hk
    subst hk
    subst e
    have hc : w.heap[g]? = _ := hc
    rw [hm] at hc
    cases hc
theorem R_setBlock {w : World} {F : Nat → Prop} {v : Value} {xs : List Int} (h : Kd.R (Kd.int .i64) 3 w 0 F v xs) {m : Nat} {es : Array MapEntry} {clock : Nat} (hm : w.heap[m]? = some (.map es clock)) (o : Obj) : Kd.R (Kd.int .i64) 3 (setBlock w m o) 0 F v xs := by
  have hne := R_ne_map h hm
  obtain ⟨h0, inner, hown, hr⟩ := h
  refine ⟨h0, inner, ⟨hown.1, ?_⟩, hr⟩
  rcases hown.2 with h1 | ⟨g, cap, cur, rfl, h2, hc, h3⟩
  · exact .inl h1
  · exact .inr ⟨g, cap, cur, rfl, h2, (setBlock_other (hne g rfl)).trans hc, h3⟩
/-- An entry's row with one place more: where the run was a key. -/
theorem EndsOk.old {W w1 : World} {F : Nat → Prop} {es : List MapEntry} {O : List Int → List Int} {tv v1 : Value} (h : EndsOk W F es O tv) {j : Nat} {e0 : MapEntry} (he : es[j]? = some e0) {g : List Int} (hg : Gram g) (hk : e0.key = keyG g) {l : List Int}
    (hR : Kd.R (Kd.int .i64) 3 w1 0 F v1 l) (hgr : W.grownBy w1 e0.val.ownBlock) (hat : v1.ownBlock = e0.val.ownBlock ∨ ∃ b, v1.ownBlock = some b ∧ W.heap.size ≤ b) (hlt : ∀ k, tv.ownBlock = some k → k < W.heap.size) :
    EndsOk w1 F (es.modify j (fun e => { e with val := v1 })) (updO O g l) tv := by
  have hget : ∀ (i : Nat) (e : MapEntry), (es.modify j (fun e => { e with val := v1 }))[i]? = some e → (i = j ∧ e = { e0 with val := v1 }) ∨ (i ≠ j ∧ es[i]? = some e) := fun i e hi => by
    rw [List.getElem?_modify] at hi
    by_cases c : j = i
    · subst c
      rw [he] at hi
      simp at hi
      exact .inl ⟨rfl, hi.symm⟩
    · simp [c] at hi
      exact .inr ⟨fun e => c e.symm, hi⟩
  obtain ⟨g0, hg0, hk0, hR0⟩ := h.row j e0 he
  have hgg : g0 = g := keyG_inj hg0 hg (hk0.symm.trans hk)
  subst hgg
  have hkeys : (es.modify j (fun e => { e with val := v1 })).map (·.key) = es.map (·.key) := by
    refine List.ext_getElem? fun i => ?_
    rw [List.getElem?_map, List.getElem?_map, List.getElem?_modify]
    by_cases c : j = i
    · subst c; simp [he]
    · simp [c]
  refine ⟨fun i e hi => ?_, fun g' hg' hno => ?_, by rw [hkeys]; exact h.keys, fun i i' e e' hne hi hi' => ?_, fun e hm => ?_⟩
  · rcases hget i e hi with ⟨rfl, rfl⟩ | ⟨hij, hi⟩
    · exact ⟨g0, hg0, hk0, by unfold updO; rw [if_pos rfl]; exact hR⟩
    · obtain ⟨g1, hg1, hk1, hR1⟩ := h.row i e hi
      refine ⟨g1, hg1, hk1, ?_⟩
      have hne : g1 ≠ g0 := fun e1 => by
        subst e1
        obtain ⟨hil, hi2⟩ := List.getElem?_eq_some_iff.1 hi
        obtain ⟨hjl, hj2⟩ := List.getElem?_eq_some_iff.1 he
        have hp := List.pairwise_iff_getElem.1 h.keys
        have e2 : es[i].key = es[j].key := by rw [hi2, hj2, hk1, hk0]
        rcases Nat.lt_or_gt_of_ne hij with c | c
        · have := hp i j (by simpa using hil) (by simpa using hjl) c
          simp only [List.getElem_map] at this
          exact this e2
        · have := hp j i (by simpa using hjl) (by simpa using hil) c
          simp only [List.getElem_map] at this
          exact this e2.symm
      unfold updO
      rw [if_neg hne]
      exact Kd.R_grown2 hR1 rfl hgr (h.apart j i e0 e (fun h => hij h.symm) he hi)
  · have hno' : ∀ e ∈ es, e.key ≠ keyG g' := fun e he2 hk2 => by
      have : e.key ∈ es.map (·.key) := List.mem_map.2 ⟨e, he2, rfl⟩
      rw [← hkeys] at this
      obtain ⟨e3, h3, h4⟩ := List.mem_map.1 this
      exact hno e3 h3 (h4.trans hk2)
    have hne : g' ≠ g0 := fun e1 => by
      subst e1
      exact hno' e0 (List.mem_of_getElem? he) hk0
    unfold updO
    rw [if_neg hne]
    exact h.none g' hg' hno'
  · have hat' : ∀ (i : Nat) (e : MapEntry), i ≠ j → es[i]? = some e → Apart v1 e.val := fun i e hij hi => by
      obtain ⟨g1, _, _, hR1⟩ := h.row i e hi
      exact (h.apart j i e0 e (fun h => hij h.symm) he hi).after (Kd.R_lt hR1) hat
    rcases hget i e hi with ⟨hij, rfl⟩ | ⟨hij, hi2⟩
    · rcases hget i' e' hi' with ⟨hij', rfl⟩ | ⟨hij', hi2'⟩
      · exact absurd (hij.trans hij'.symm) hne
      · exact hat' i' e' hij' hi2'
    · rcases hget i' e' hi' with ⟨hij', rfl⟩ | ⟨hij', hi2'⟩
      · exact (hat' i e hij hi2).symm
      · exact h.apart i i' e e' hne hi2 hi2'
  · obtain ⟨i, hi⟩ := List.mem_iff_getElem?.1 hm
    rcases hget i e hi with ⟨rfl, rfl⟩ | ⟨hij, hi⟩
    · exact ((h.text e0 (List.mem_of_getElem? he)).symm.after hlt hat).symm
    · exact h.text e (List.mem_of_getElem? hi)
/-- .. where the run was no key yet. -/
theorem EndsOk.new {W w1 : World} {F : Nat → Prop} {es : List MapEntry} {O : List Int → List Int} {tv v1 : Value} (h : EndsOk W F es O tv) {g : List Int} (hg : Gram g) (hno : ∀ e ∈ es, e.key ≠ keyG g) {l : List Int}
    (hR : Kd.R (Kd.int .i64) 3 w1 0 F v1 l) (hgr : W.grownBy w1 Option.none) (hat : ∀ b, v1.ownBlock = some b → W.heap.size ≤ b) (hlt : ∀ k, tv.ownBlock = some k → k < W.heap.size) (clock : Nat) :
    EndsOk w1 F (es ++ [⟨keyG g, v1, clock⟩]) (updO O g l) tv := by
  have hget : ∀ (i : Nat) (e : MapEntry), (es ++ [⟨keyG g, v1, clock⟩])[i]? = some e → (i = es.length ∧ e = ⟨keyG g, v1, clock⟩) ∨ (i < es.length ∧ es[i]? = some e) := fun i e hi => by
    rcases Nat.lt_trichotomy i es.length with c | c | c
    · rw [List.getElem?_append_left c] at hi
      exact .inr ⟨c, hi⟩
    · subst c
      rw [List.getElem?_append_right (Nat.le_refl _)] at hi
      simp at hi
      exact .inl ⟨rfl, hi.symm⟩
    · rw [List.getElem?_eq_none (by simp; omega)] at hi
      cases hi
  have hat' : ∀ (i : Nat) (e : MapEntry), es[i]? = some e → Apart v1 e.val := fun i e hi k hk e1 => by
    obtain ⟨g1, _, _, hR1⟩ := h.row i e hi
    have := Kd.R_lt hR1 k e1.symm
    have := hat k hk
    omega
  refine ⟨fun i e hi => ?_, fun g' hg' hn => ?_, ?_, fun i i' e e' hne hi hi' => ?_, fun e hm => ?_⟩
  · rcases hget i e hi with ⟨_, rfl⟩ | ⟨hij, hi⟩
    · exact ⟨g, hg, rfl, by unfold updO; rw [if_pos rfl]; exact hR⟩
    · obtain ⟨g1, hg1, hk1, hR1⟩ := h.row i e hi
      refine ⟨g1, hg1, hk1, ?_⟩
      have hne : g1 ≠ g := fun e1 => hno e (List.mem_of_getElem? hi) (by rw [hk1, e1])
      unfold updO
      rw [if_neg hne]
      exact Kd.R_grown2 hR1 rfl hgr (fun k hk e1 => by cases hk)
  · have hne : g' ≠ g := fun e1 => hn ⟨keyG g, v1, clock⟩ (by simp) (by rw [e1])
    unfold updO
    rw [if_neg hne]
    exact h.none g' hg' fun e he => hn e (List.mem_append_left _ he)
  · rw [List.map_append]
    refine List.nodup_append.2 ⟨h.keys, by simp, fun a ha c hc e1 => ?_⟩
    simp only [List.map_cons, List.map_nil, List.mem_singleton] at hc
    obtain ⟨x, hx, rfl⟩ := List.mem_map.1 ha
    exact hno x hx (e1.trans hc)
  · rcases hget i e hi with ⟨hij, rfl⟩ | ⟨hij, hi2⟩
    · rcases hget i' e' hi' with ⟨hij', rfl⟩ | ⟨hij', hi2'⟩
      · exact absurd (hij.trans hij'.symm) hne
      · exact hat' i' e' hi2'
    · rcases hget i' e' hi' with ⟨hij', rfl⟩ | ⟨hij', hi2'⟩
      · exact (hat' i e hi2).symm
      · exact h.apart i i' e e' hne hi2 hi2'
  · rcases List.mem_append.1 hm with hm | hm
    · exact h.text e hm
    · obtain rfl := List.mem_singleton.1 hm
      intro k hk e1
      have := hlt k hk
      have := hat k e1.symm
      omega
theorem EndsOk.setBlock {w : World} {F : Nat → Prop} {es : List MapEntry} {O : List Int → List Int} {tv : Value} (h : EndsOk w F es O tv) {m : Nat} {es' : Array MapEntry} {clock : Nat} (hm : w.heap[m]? = some (.map es' clock)) (o : Obj) : EndsOk (setBlock w m o) F es O tv :=
  ⟨fun j e he => by obtain ⟨g, h1, h2, h3⟩ := h.row j e he; exact ⟨g, h1, h2, R_setBlock h3 hm o⟩, h.none, h.keys, h.apart, h.text⟩
end Go.Proofs.Ytjeofkobefeigaa.Wk
/- An index, step by step: a token behind its text; a place behind a run's row. -/
namespace Go.Proofs.Ytjeofkobefeigaa.Wk
open Go.RowKit Go.Proofs.YtjeofkobefeigaaW.PrintWords Go.Proofs.YtjeofkobefeigaaW.PrintLast Go.Proofs.YtjeofkobefeigaaW.PrintMore Go.Proofs.Ytjeofkobefeigaa.Mp
open Go.ChangeMaps (setBlock)
open Go.WideElems (modify_last set_self)

theorem R_fr {w w1 : World} {F G : Nat → Prop} {v : Value} {xs : List Int} (h : Kd.R (Kd.int .i64) 3 w 0 F v xs) (hf : Fr G w w1) (hne : ∀ k, v.ownBlock = some k → ¬ G k) : Kd.R (Kd.int .i64) 3 w1 0 F v xs := by
  obtain ⟨h0, inner, hown, hr⟩ := h
  refine ⟨h0, inner, ⟨hown.1, ?_⟩, hr⟩
  rcases hown.2 with h1 | ⟨g, cap, cur, rfl, h2, hc, h3⟩
  · exact .inl h1
  · exact .inr ⟨g, cap, cur, rfl, h2, (hf.block g (blk_lt hc) (hne g rfl)).trans hc, h3⟩
theorem EndsOk.fr {w w1 : World} {F G : Nat → Prop} {es : List MapEntry} {O : List Int → List Int} {tv : Value} (h : EndsOk w F es O tv) (hf : Fr G w w1) (hne : ∀ e ∈ es, ∀ k, e.val.ownBlock = some k → ¬ G k) : EndsOk w1 F es O tv :=
  ⟨fun j e he => by obtain ⟨g, h1, h2, h3⟩ := h.row j e he; exact ⟨g, h1, h2, R_fr h3 hf (hne e (List.mem_of_getElem? he))⟩, h.none, h.keys, h.apart, h.text⟩
theorem C_fr {w w1 : World} {G : Nat → Prop} {A : Option Addr} {n : Nat} {xs : List Int} (h : Kd.C (Kd.int .i64) w A n xs) (hf : Fr G w w1) (hne : ∀ ad, A = some ad → ¬ G ad.block) : Kd.C (Kd.int .i64) w1 A n xs := by
  obtain ⟨h1, h2, h3⟩ := Kd.reads_of_C (d := (0 : Int)) (h1 := fun _ => rfl) h
  refine Kd.C_of_reads (d := (0 : Int)) (h1 := fun _ => rfl) ⟨h1, h2, fun hn => ?_⟩
  obtain ⟨ad, e, hc⟩ := h3 hn
  refine ⟨ad, e, fun j hj => ?_⟩
  have hj' := hc j hj
  have hb := hf.block ad.block (by have := World.block_lt_of_cell? w (ad.add j) hj'; rwa [add_block] at this) (hne ad e)
  rw [← hj']
  simp [World.cell?, add_block, hb]
/-- An index, with what lies in it. -/
structure IdxE (w : World) (F : Nat → Prop) (B m : Nat) (most : Int) (t : List Int) (O : List Int → List Int) (tv : Value) (es : Array MapEntry) (clock : Nat) : Prop where
  box : w.heap[B]? = some (.cells #[.int .i64 most, tv, .map (some m)] 68 (0, 0))
  text : Kd.R (Kd.int .i64) 3 w 0 F tv t
  map : w.heap[m]? = some (.map es clock)
  stamp : Stamped es.toList clock
  ends : EndsOk w F es.toList O tv
  fB : F B
  fm : F m
theorem Idx.open {w : World} {F : Nat → Prop} {B m : Nat} {most : Int} {t : List Int} {O : List Int → List Int} (h : Idx w F B m most t O) : ∃ tv es clock, IdxE w F B m most t O tv es clock := by
  obtain ⟨⟨tv, es, clock, h1, h2, h3, h4, h5⟩, fB, fm⟩ := h
  exact ⟨tv, es, clock, h1, h2, h3, h4, h5, fB, fm⟩
theorem IdxE.shut {w : World} {F : Nat → Prop} {B m : Nat} {most : Int} {t : List Int} {O : List Int → List Int} {tv : Value} {es : Array MapEntry} {clock : Nat} (h : IdxE w F B m most t O tv es clock) : Idx w F B m most t O :=
  ⟨⟨tv, es, clock, h.box, h.text, h.map, h.stamp, h.ends⟩, h.fB, h.fm⟩
theorem IdxE.below {w w1 : World} {F : Nat → Prop} {B m : Nat} {most : Int} {t : List Int} {O : List Int → List Int} {tv : Value} {es : Array MapEntry} {clock : Nat} (h : IdxE w F B m most t O tv es clock) (hb : Below w.heap.size w w1) : IdxE w1 F B m most t O tv es clock :=
  ⟨blk_below h.box hb, Kd.R_below h.text hb, blk_below h.map hb, h.stamp, h.ends.below hb, h.fB, h.fm⟩
theorem IdxE.congr {w : World} {F : Nat → Prop} {B m : Nat} {most : Int} {t : List Int} {O O' : List Int → List Int} {tv : Value} {es : Array MapEntry} {clock : Nat} (h : IdxE w F B m most t O tv es clock) (hO : ∀ g, Gram g → O g = O' g) : IdxE w F B m most t O' tv es clock :=
  ⟨h.box, h.text, h.map, h.stamp, h.ends.congr hO, h.fB, h.fm⟩
theorem IdxE.ne {w : World} {F : Nat → Prop} {B m : Nat} {most : Int} {t : List Int} {O : List Int → List Int} {tv : Value} {es : Array MapEntry} {clock : Nat} (h : IdxE w F B m most t O tv es clock) : B ≠ m := fun e => by
  have h1 := h.box
  have h2 := h.map
  rw [e, h2] at h1
  cases h1
theorem R_neB {w : World} {F : Nat → Prop} {v : Value} {xs : List Int} (h : Kd.R (Kd.int .i64) 3 w 0 F v xs) {B : Nat} {cs : Array Value} (hB : w.heap[B]? = some (.cells cs 68 (0, 0))) : ∀ k, v.ownBlock = some k → k ≠ B := fun k hk e => Kd.R_ne h hB (by decide) (by rw [hk, e])
theorem R_set {w : World} {F : Nat → Prop} {v : Value} {xs : List Int} (h : Kd.R (Kd.int .i64) 3 w 0 F v xs) {B : Nat} {cs : Array Value} (hB : w.heap[B]? = some (.cells cs 68 (0, 0))) (i : Nat) (u : Value) : Kd.R (Kd.int .i64) 3 (w.setCell ⟨B, i, none⟩ u) 0 F v xs := by
  have hne := R_neB h hB
  obtain ⟨h0, inner, hown, hr⟩ := h
  refine ⟨h0, inner, ⟨hown.1, ?_⟩, hr⟩
  rcases hown.2 with h1 | ⟨g, cap, cur, rfl, h2, hc, h3⟩
  · exact .inl h1
  · exact .inr ⟨g, cap, cur, rfl, h2, (Below.heap_setCell w ⟨B, i, none⟩ u g (hne g rfl)).trans hc, h3⟩
theorem Fr.set {F : Nat → Prop} {a b : World} {B : Nat} (h : Fr F a b) (hB : F B) (i : Nat) (u : Value) : Fr F a (b.setCell ⟨B, i, none⟩ u) :=
  ⟨h.os, h.tape, h.output, by simpa [World.setCell] using h.size, fun k hk hf => (Below.heap_setCell b ⟨B, i, none⟩ u k (fun e => hf (by have e' : k = B := e; rw [e']; exact hB))).trans (h.block k hk hf)⟩
theorem Fr.setBlock {F : Nat → Prop} {a b : World} {B : Nat} (h : Fr F a b) (hB : F B) (o : Obj) : Fr F a (setBlock b B o) :=
  ⟨h.os, h.tape, h.output, by simpa [Go.ChangeMaps.setBlock] using h.size, fun k hk hf => (setBlock_other (fun e => hf (by rw [e]; exact hB))).trans (h.block k hk hf)⟩
theorem Fr.mono {F G : Nat → Prop} {a b : World} (h : Fr F a b) (hFG : ∀ k, F k → G k) : Fr G a b := ⟨h.os, h.tape, h.output, h.size, fun k hk hg => h.block k hk (fun hf => hg (hFG k hf))⟩
/-- The text with one token more, stored. -/
theorem IdxE.text_step {W w1 : World} {F : Nat → Prop} {B m : Nat} {most : Int} {t t' : List Int} {O : List Int → List Int} {tv v1 : Value} {es : Array MapEntry} {clock : Nat} (h : IdxE W F B m most t O tv es clock)
    (hR : Kd.R (Kd.int .i64) 3 w1 0 F v1 t') (hg : W.grownBy w1 tv.ownBlock) (hat : v1.ownBlock = tv.ownBlock ∨ ∃ b, v1.ownBlock = some b ∧ W.heap.size ≤ b) :
    IdxE (w1.setCell ⟨B, 1, none⟩ v1) F B m most t' O v1 es clock ∧ Fr F W (w1.setCell ⟨B, 1, none⟩ v1) := by
  have hB1 : w1.heap[B]? = some (.cells #[.int .i64 most, tv, .map (some m)] 68 (0, 0)) := blk_grown h.box hg (fun e => R_neB h.text h.box B e.symm rfl)
  have hm1 : w1.heap[m]? = some (.map es clock) := (hg.block m (blk_lt h.map) (fun e => R_ne_map h.text h.map m e.symm rfl)).trans h.map
  refine ⟨⟨blk_put hB1 1 v1 rfl, R_set hR hB1 1 v1, (Below.heap_setCell w1 ⟨B, 1, none⟩ v1 m (fun e => h.ne e.symm)).trans hm1, h.stamp, ?_, h.fB, h.fm⟩, (Fr.of_grown hg (fun k hk => h.text.1 k hk)).set h.fB 1 v1⟩
  refine ⟨fun j e he => ?_, h.ends.none, h.ends.keys, h.ends.apart, fun e he => ?_⟩
  · obtain ⟨g, h1, h2, h3⟩ := h.ends.row j e he
    exact ⟨g, h1, h2, R_set (Kd.R_grown2 h3 rfl hg (h.ends.text e (List.mem_of_getElem? he))) hB1 1 v1⟩
  · obtain ⟨j, hj⟩ := List.mem_iff_getElem?.1 he
    obtain ⟨g, _, _, h3⟩ := h.ends.row j e hj
    exact (h.ends.text e he).after (Kd.R_lt h3) hat
theorem R_nilA {w : World} {F : Nat → Prop} : Kd.R (Kd.int .i64) 3 w 0 F (.slice none 0 0) [] := Kd.R_nil _ _ _ _ _
/-- A run's row with one place more (or in any other way written anew): asked for, and stored back. -/
theorem IdxE.entry_step {w : World} {F : Nat → Prop} {B m : Nat} {most : Int} {t : List Int} {O : List Int → List Int} {tv : Value} {es : Array MapEntry} {clock : Nat} (h : IdxE w F B m most t O tv es clock) {g : List Int} (hg : Gram g) :
    ∃ (v0 : Value) (st : Nat) (es1 : Array MapEntry) (clock1 : Nat), (∀ W : World, W.heap[m]? = w.heap[m]? → (Instr.mapEntry 66 (.map (some m)) (keyG g)).run Try.prog W = .ok (.tuple #[v0, goInt st]) (setBlock W m (.map es1 clock1))) ∧
      Kd.R (Kd.int .i64) 3 w 0 F v0 (O g) ∧
      ∀ (Wx W2 : World) (val : Value) (l : List Int), Fr (fun k => k = m ∨ w.heap.size ≤ k) w Wx → Wx.heap[m]? = some (.map es1 clock1) → Wx.grownBy W2 v0.ownBlock → Kd.R (Kd.int .i64) 3 W2 0 F val l → (val.ownBlock = v0.ownBlock ∨ ∃ b, val.ownBlock = some b ∧ Wx.heap.size ≤ b) →
        ∃ es2, (Instr.entryStore 66 (.map (some m)) (goInt st) val).run Try.prog W2 = .ok () (setBlock W2 m (.map es2 clock1)) ∧ IdxE (setBlock W2 m (.map es2 clock1)) F B m most t (updO O g l) tv es2 clock1 := by
  have hko := h.ends.keysOk
  have hrows : ∀ e ∈ es.toList, ∀ k, e.val.ownBlock = some k → ¬ (k = m ∨ w.heap.size ≤ k) := fun e he k hk hh => by
    obtain ⟨j, hj⟩ := List.mem_iff_getElem?.1 he
    obtain ⟨_, _, _, h3⟩ := h.ends.row j e hj
    rcases hh with hh | hh
    · exact R_ne_map h3 h.map k hk hh
    · have := Kd.R_lt h3 k hk
      omega
  have htext : ∀ k, tv.ownBlock = some k → ¬ (k = m ∨ w.heap.size ≤ k) := fun k hk hh => by
    rcases hh with hh | hh
    · exact R_ne_map h.text h.map k hk hh
    · have := Kd.R_lt h.text k hk
      omega
  have hBG : ¬ (B = m ∨ w.heap.size ≤ B) := fun hh => by
    rcases hh with hh | hh
    · exact h.ne hh
    · have := blk_lt h.box
      omega
  by_cases hyes : ∃ e ∈ es.toList, e.key = keyG g
  · obtain ⟨j, e0, he0, hk0, _⟩ := entry_old h.map hko h.stamp (key_ok hg) hyes
    obtain ⟨g0, hg0, hkg0, hR0⟩ := h.ends.row j e0 he0
    have hgg : g0 = g := keyG_inj hg0 hg (hkg0.symm.trans hk0)
    subst hgg
    have huniq : ∀ (W : World), W.heap[m]? = some (.map es clock) → (Instr.mapEntry 66 (.map (some m)) (keyG g0)).run Try.prog W = .ok (.tuple #[e0.val, goInt e0.born]) (setBlock W m (.map es clock)) ∧
        ∀ (w2 : World) (val : Value), w2.heap[m]? = some (.map es clock) → (Instr.entryStore 66 (.map (some m)) (goInt e0.born) val).run Try.prog w2 = .ok () (setBlock w2 m (.map (es.modify j (fun e => { e with val := val })) clock)) := fun W hW => by
      obtain ⟨j', e0', he', hk', h1, h2⟩ := entry_old hW hko h.stamp (key_ok hg) hyes
      have hjj : j' = j := by
        obtain ⟨hil, hi2⟩ := List.getElem?_eq_some_iff.1 he'
        obtain ⟨hjl, hj2⟩ := List.getElem?_eq_some_iff.1 he0
        have hp := List.pairwise_iff_getElem.1 h.ends.keys
        have e2 : es.toList[j'].key = es.toList[j].key := by rw [hi2, hj2, hk', hk0]
        rcases Nat.lt_trichotomy j' j with c | c | c
        · have := hp j' j (by simpa using hil) (by simpa using hjl) c
          simp only [List.getElem_map] at this
          exact absurd e2 this
        · exact c
        · have := hp j j' (by simpa using hjl) (by simpa using hil) c
          simp only [List.getElem_map] at this
          exact absurd e2.symm this
      subst hjj
      have : e0' = e0 := by rw [he'] at he0; exact Option.some.inj he0
      subst this
      exact ⟨h1, h2⟩
    refine ⟨e0.val, e0.born, es, clock, fun W hW => (huniq W (hW.trans h.map)).1, hR0, fun Wx W2 val l hf hm hgr hR hat => ?_⟩
    have hR0x := R_fr hR0 hf (hrows e0 (List.mem_of_getElem? he0))
    have hm2 : W2.heap[m]? = some (.map es clock) := (hgr.block m (blk_lt hm) (fun e => R_ne_map hR0x hm m e.symm rfl)).trans hm
    refine ⟨_, (huniq Wx hm).2 W2 val hm2, ?_⟩
    have hBx : Wx.heap[B]? = some (.cells #[.int .i64 most, tv, .map (some m)] 68 (0, 0)) := (hf.block B (blk_lt h.box) hBG).trans h.box
    have hB2 : W2.heap[B]? = some (.cells #[.int .i64 most, tv, .map (some m)] 68 (0, 0)) := blk_grown hBx hgr (fun e => R_neB hR0x hBx B e.symm rfl)
    have htx := R_fr h.text hf htext
    have hlt : ∀ k, tv.ownBlock = some k → k < Wx.heap.size := Kd.R_lt htx
    refine ⟨(setBlock_other h.ne).trans hB2, R_setBlock (Kd.R_grown2 htx rfl hgr (h.ends.text e0 (List.mem_of_getElem? he0)).symm) hm2 _, setBlock_at (blk_lt hm2), ?_, ?_, h.fB, h.fm⟩
    · obtain ⟨s1, s2⟩ := h.stamp
      have hb : (es.modify j (fun e => { e with val := val })).toList.map (·.born) = es.toList.map (·.born) := by
        rw [Array.toList_modify]
        refine List.ext_getElem? fun i => ?_
        rw [List.getElem?_map, List.getElem?_map, List.getElem?_modify]
        by_cases c : j = i
        · subst c; simp [he0]
        · simp [c]
      refine ⟨fun x hx => ?_, by rw [hb]; exact s2⟩
      have : x.born ∈ (es.modify j (fun e => { e with val := val })).toList.map (·.born) := List.mem_map.2 ⟨x, hx, rfl⟩
      rw [hb] at this
      obtain ⟨y, hy, e⟩ := List.mem_map.1 this
      rw [← e]; exact s1 y hy
    · have he1 := (h.ends.fr hf hrows).old he0 hg hkg0 hR hgr hat hlt
      rw [← Array.toList_modify] at he1
      exact he1.setBlock hm2 _
  · have hno : ∀ e ∈ es.toList, e.key ≠ keyG g := fun e he hk => hyes ⟨e, he, hk⟩
    refine ⟨.slice none 0 0, clock, es.push ⟨keyG g, .slice none 0 0, clock⟩, clock + 1, fun W hW => (entry_new (hW.trans h.map) hko h.stamp (key_ok hg) hno).1, by rw [h.ends.none g hg hno]; exact R_nilA, fun Wx W2 val l hf hm hgr hR hat => ?_⟩
    have hgr' : Wx.grownBy W2 none := hgr
    have hm2 : W2.heap[m]? = some (.map (es.push ⟨keyG g, .slice none 0 0, clock⟩) (clock + 1)) := (hgr'.block m (blk_lt hm) (fun e => by cases e)).trans hm
    refine ⟨_, (entry_new h.map hko h.stamp (key_ok hg) hno).2 W2 val hm2, ?_⟩
    have hBx : Wx.heap[B]? = some (.cells #[.int .i64 most, tv, .map (some m)] 68 (0, 0)) := (hf.block B (blk_lt h.box) hBG).trans h.box
    have hB2 : W2.heap[B]? = some (.cells #[.int .i64 most, tv, .map (some m)] 68 (0, 0)) := blk_grown hBx hgr' (fun e => by cases e)
    have htx := R_fr h.text hf htext
    have hlt : ∀ k, tv.ownBlock = some k → k < Wx.heap.size := Kd.R_lt htx
    have hat' : ∀ b, val.ownBlock = some b → Wx.heap.size ≤ b := fun b hb => by
      rcases hat with hat | ⟨b', h1, h2⟩
      · rw [hb] at hat; cases hat
      · rw [hb] at h1; injection h1 with h1; omega
    refine ⟨(setBlock_other h.ne).trans hB2, R_setBlock (Kd.R_grown2 htx rfl hgr' (fun k hk => by cases hk)) hm2 _, setBlock_at (blk_lt hm2), by rw [Array.toList_push]; exact stamped_push h.stamp _ _, ?_, h.fB, h.fm⟩
    have he1 := (h.ends.fr hf hrows).new hg hno hR hgr' hat' hlt clock
    rw [← Array.toList_push] at he1
    exact he1.setBlock hm2 _
theorem setBlock_alloc {w : World} {b : Nat} {o o' : Obj} (hb : b < w.heap.size) : setBlock (w.alloc o') b o = (setBlock w b o).alloc o' := by
  unfold setBlock World.alloc
  congr 1
  simp only
  refine Array.ext_getElem? fun i => ?_
  simp only [Array.getElem?_setIfInBounds, Array.getElem?_push, Array.size_push, Array.size_setIfInBounds]
  by_cases c : b = i
  · subst c
    have h1 : b ≠ w.heap.size := by omega
    have h2 : b < w.heap.size + 1 := by omega
    simp [h1, h2, hb]
  · rw [if_neg c, if_neg c]
theorem occ_length1 {t g : List Int} (hg : Gram g) : (occ t g).length ≤ t.length := by
  have h0 : at? t g 0 = false := by
    have := hg.1
    unfold at?
    rw [decide_eq_false (by omega)]; rfl
  unfold occ
  rw [List.length_map, List.range_succ_eq_map, List.filter_cons_of_neg (by simp [h0])]
  exact Nat.le_trans (List.length_filter_le _ _) (by simp)
end Go.Proofs.Ytjeofkobefeigaa.Wk
/- The walk of ngram's Append. -/
namespace Go.Proofs.Ytjeofkobefeigaa.Wk
open Go.RowKit Go.Proofs.YtjeofkobefeigaaW.PrintWords Go.Proofs.YtjeofkobefeigaaW.PrintLast Go.Proofs.YtjeofkobefeigaaW.PrintMore Go.Proofs.Ytjeofkobefeigaa.Mp
open Go.ChangeMaps (setBlock)
attribute [local go_sem] max2_int min2_int max_two min_two

/-- An own list of numbers that is appended to, as one step of a region that draws its order. -/
theorem appI_step {ops : Array Oper} {o : Oper} {a : Act} {Q : Exit → Act → World → Prop} {K : Act → World → Prop} {E : Prop} {F : Nat → Prop} {W ww : World} {N : Nat} (hg : o.guard = none) (s x : Operand)
    (ho : o.op = .call { callee := .builtin .append, args := #[s, x], argTypes := #[22, 22] }) (v : Value) (xs : List Int) (p : Int) (hs : a.eval s = v) (hx : a.eval x = .slice (some ⟨N, 0, none⟩) 1 1) (hN : N = W.heap.size)
    (hww : ww = W.alloc (.cells #[.int .i64 p] 3 (0, 0))) (HO : Kd.R (Kd.int .i64) 3 W 0 F v xs) (hF : ∀ k, W.heap.size ≤ k → F k) (hl : (xs.length + 1) * 8 ≤ 140737488355328)
    (h : ∀ v1 w1, Kd.R (Kd.int .i64) 3 w1 0 F v1 (xs ++ [p]) → W.grownBy w1 v.ownBlock → (v1.ownBlock = v.ownBlock ∨ ∃ b, v1.ownBlock = some b ∧ W.heap.size ≤ b) → K (a.put o.dst v1) w1) :
    if Region.wanted o (yielded ops a.tmps) = true then Oper.wp Try.prog o a ww K Q else E := by
  subst hww hN
  have hw : Region.wanted o (yielded ops a.tmps) = true := by simp [Region.wanted, hg]
  have H := Kd.R_append_step (P := Try.prog) (Q := Q) (Kc := K) (Kd.int .i64) (w0 := W) 0 hw s x 22 3 (.int .i64 0) 8 ho Try.underlying22 info3 rfl (by decide) (by omega) v xs p [.int .i64 p] F (fun _ => False) hs hx rfl (fun _ hk => hk.elim) hF HO ((Below.refl 0 W)) (Nat.zero_le _) hl (fun v1 w1 h1 _ h2 h3 => h v1 w1 h1 h2 h3)
  rw [if_pos hw] at H ⊢
  exact H
theorem ahead_at {B m : Nat} {most : Int} {At : Option Addr} {ct : Nat} {t : List Int} (w : World) (hB : w.heap[B]? = some (.cells #[.int .i64 most, .slice At t.length ct, .map (some m)] 68 (0, 0))) (hC : Kd.C (Kd.int .i64) w At t.length t) (hc : t.length ≤ ct)
    {p n : Nat} (h1 : 1 ≤ n) (h4 : n ≤ 4) (hnp : n ≤ p) (hp : p ≤ t.length) {pv nv : Int} (hpv : pv = p) (hnv : nv = n) :
    Calls Try.prog 37 #[.pointer (some ⟨B, 0, none⟩), .int .i64 pv, .int .i64 nv] w fun e w' => ∃ r0 r1 r2 r3 : Int, e = .returned (.agg #[.int .i64 n, .int .i64 r0, .int .i64 r1, .int .i64 r2, .int .i64 r3]) ∧ Value.agg #[.int .i64 n, .int .i64 r0, .int .i64 r1, .int .i64 r2, .int .i64 r3] = keyG (gramAt t p n) ∧ Below w.heap.size w w' := by
  subst hpv hnv
  refine (ahead_calls w hB hC hc h1 h4 hnp hp).mono ?_
  rintro e w' ⟨rfl, hb⟩
  exact ⟨_, _, _, _, rfl, key_run hnp hp, hb⟩
theorem ocN_length {most n : Nat} {t g : List Int} {y : Int} (hg : Gram g) (hn : g.length = n) : (ocN most n t y g).length ≤ t.length := by
  unfold ocN
  split
  · rw [if_neg (by omega)]
    exact occ_length1 hg
  · exact Nat.zero_le _
theorem take_step {l : List Int} {i : Nat} (h : i < l.length) : l.take (i + 1) = l.take i ++ [nth l i] := by
  rw [List.take_add_one, List.getElem?_eq_getElem h]
  unfold nth
  rw [List.getD_eq_getElem?_getD, List.getElem?_eq_getElem h]
  rfl
def A1Rel (w : World) (F : Nat → Prop) (B m most : Nat) (t ts : List Int) (x : Value) (wr : World) : Prop :=
  ∃ i : Nat, x = .int .i64 i ∧ i ≤ ts.length ∧ Idx wr F B m most (t ++ ts.take i) (ocM most (t ++ ts.take i)) ∧ Fr F w wr
def A2Rel (w : World) (F : Nat → Prop) (B m most : Nat) (t : List Int) (y : Int) (x : Value) (wr : World) : Prop :=
  ∃ n : Nat, x = .int .i64 n ∧ 1 ≤ n ∧ n ≤ most + 1 ∧ n ≤ t.length + 2 ∧ Idx wr F B m most (t ++ [y]) (ocN most n t y) ∧ Fr F w wr
set_option maxHeartbeats 4000000 in
set_option maxRecDepth 100000 in
theorem append_calls {F : Nat → Prop} {B m most : Nat} {A : Option Addr} {c : Nat} {t ts : List Int} (w : World) (hF : ∀ k, w.heap.size ≤ k → F k) (hI : Idx w F B m most t (ocM most t)) (h1 : 1 ≤ most) (h4 : most ≤ 4)
    (ht : ∀ x ∈ t, (Lit.int .i64 x).wf = true) (hts : ∀ x ∈ ts, (Lit.int .i64 x).wf = true) (hC : Kd.C (Kd.int .i64) w A ts.length ts) (hc : ts.length ≤ c) (hA : ts ≠ [] → ∀ ad, A = some ad → ¬ F ad.block) (hl : (t.length + ts.length) * 8 ≤ 140737488355328) :
    Calls Try.prog 19 #[.pointer (some ⟨B, 0, none⟩), .slice A ts.length c] w fun e w' => e = .returned (.tuple #[]) ∧ Idx w' F B m most (t ++ ts) (ocM most (t ++ ts)) ∧ Fr F w w' := by
  have HF := Lib.hid hF
  have HI := Lib.hid hI
  have HT := Lib.hid ht
  have HTS := Lib.hid hts
  have HC := Lib.hid hC
  have HA := Lib.hid hA
  obtain ⟨k, hk⟩ : ∃ k, ts.length = k := ⟨_, rfl⟩
  rw [hk] at hc hl ⊢
  have HK := Lib.hid hk
  have HL := Lib.hid hl
  clear hF hI ht hts hC hA hk hl
  go_enter Try.func19, Try.ntmps19
  go_wp2
  go_loopw [13] (fun x wr => A1Rel w F B m most t ts x wr) (fun x _ => k - (intOf x).toNat)
  case atStart => exact ⟨0, rfl, Nat.zero_le _, by simpa using HI.out, Fr.refl F w⟩
  case round =>
    obtain ⟨i, rfl, hi, hI, hf⟩ := hrel
    rw [HK.out] at hi
    have HFR := Lib.hid hf
    have HI1 := Lib.hid hI
    clear hI hf
    rename World => wa
    by_cases hlt : i < k
    · have hlt' : decide ((i : Int) < (k : Int)) = true := decide_eq_true (by omega)
      obtain ⟨tv, es, clock, hE⟩ := HI1.out.open
      obtain ⟨ad, e1, k0⟩ := Kd.at_int (C_fr HC.out HFR.out (HA.out (fun e => by have := HK.out; rw [e] at this; simp at this; omega))) (i : Int) (by omega) (by rw [HK.out]; omega)
      subst e1
      rw [Int.toNat_natCast] at k0
      have q1 : (0 : Int) ≤ (i : Int) := by omega
      have q2 : (i : Int) < (k : Int) := by omega
      obtain ⟨y, hy⟩ : ∃ y, rd ts (i : Int) = y := ⟨_, rfl⟩
      rw [hy] at k0
      obtain ⟨tt, htt⟩ : ∃ tt, t ++ ts.take i = tt := ⟨_, rfl⟩
      rw [htt] at hE
      have HE := Lib.hid hE
      have kb : wa.cell? ⟨B, 1, none⟩ = some tv := (blk_cell hE.box 1).trans rfl
      have hltt : (tt.length + 1) * 8 ≤ 140737488355328 := by
        rw [← htt, List.length_append, List.length_take]
        have := HL.out
        omega
      have HLT := Lib.hid hltt
      have HY := Lib.hid hy
      have HWF : Hid (∀ x ∈ tt ++ [y], (Lit.int .i64 x).wf = true) := Lib.hid (fun x hx => by
        rcases List.mem_append.1 hx with hx | hx
        · rw [← htt] at hx
          rcases List.mem_append.1 hx with hx | hx
          · exact HT.out x hx
          · exact HTS.out x (List.mem_of_mem_take hx)
        · obtain rfl := List.mem_singleton.1 hx
          rw [← hy, rd_nth]
          exact nth_wf HTS.out i)
      have HTT := Lib.hid htt
      clear hE hy htt hltt HI1
      go_upto_region 5 with (first | ((with_reducible refine gate_builtin (b := .append) (xs := #[.tmp 21, .tmp 23]) rfl ?_); at_builtin; refine Kd.R_append (Kd.int .i64) (w0 := wa) 0 rfl (.tmp 21) (.tmp 23) 22 3 (.int .i64 0) 8 rfl Try.underlying22 info3 rfl (by decide) (by omega) tv tt y [.int .i64 y] F (fun _ => False) rfl rfl rfl (fun _ hk => hk.elim) ?aF HE.out.text (Below.refl 0 wa) (Nat.zero_le _) HLT.out ?_; (case aF => exact (fun k hk => HF.out k (Nat.le_trans HFR.out.size hk))); intro v1 w1 ho hb hg hat; obtain ⟨Av, cv, ev, _, _⟩ := Kd.R_reads ho; rw [List.length_append, List.length_singleton] at ev; subst ev; have kb1 : w1.cell? ⟨B, 1, none⟩ = some tv := (blk_cell (blk_grown HE.out.box hg (fun e => R_neB HE.out.text HE.out.box B e.symm rfl)) 1).trans rfl; have kf1 : w1.frozen? ⟨B, 1, none⟩ = false := blk_frozen (blk_grown HE.out.box hg (fun e => R_neB HE.out.text HE.out.box B e.symm rfl)) 1; have HO := Lib.hid ho; have HG := Lib.hid hg; have HAT := Lib.hid hat; clear ho hb hg hat))
      obtain ⟨hE2, hfr2⟩ := HE.out.text_step HO.out HG.out HAT.out
      obtain ⟨wb, hwb⟩ : ∃ x, x = w1.setCell ⟨B, 1, none⟩ (.slice Av (tt.length + 1) cv) := ⟨_, rfl⟩
      rw [← hwb] at hE2 hfr2 ⊢
      have HE2 := Lib.hid hE2
      have HFR2 := Lib.hid (HFR.out.trans hfr2)
      have kb2 : wb.cell? ⟨B, 1, none⟩ = some (.slice Av (tt.length + 1) cv) := (blk_cell hE2.box 1).trans rfl
      clear kb k0 HO HG HAT hE2 hfr2 hwb
      go_upto_region 7 with (fail)
      go_loopw [7] (fun x wr => A2Rel w F B m most tt y x wr) (fun x _ => most + 1 - (intOf x).toNat)
      case atStart => exact ⟨1, rfl, Nat.le_refl _, by omega, by omega, (HE2.out.congr (fun g hg => (ocN_one most tt y hg).symm)).shut, HFR2.out⟩
      case round =>
        obtain ⟨n, rfl, hn1, hn2, hn3, hI, hf⟩ := hrel
        have HI3 := Lib.hid hI
        have HFR3 := Lib.hid hf
        clear hI hf HE HE2 HFR2 HFR kb1 kf1
        rename World => wc
        obtain ⟨tv3, es3, clock3, hE⟩ := HI3.out.open
        have HE3 := Lib.hid hE
        have km : wc.cell? ⟨B, 0, none⟩ = some (.int .i64 (most : Int)) := (blk_cell hE.box 0).trans rfl
        clear hE HI3
        go_upto_region 7 with (fail)
        go_cut [39] (fun s39 wx => wc = wx ∧ s39 = .bool (decide (n ≤ most ∧ n ≤ tt.length + 1)))
        case first =>
          go_wp2_with fail
          all_goals go_meet
          all_goals refine ⟨rfl, ?_⟩
          all_goals (congr 1; apply decide_eq_decide.2; omega)
        case rest =>
        obtain ⟨rfl, rfl⟩ := hcut
        by_cases hle : n ≤ most ∧ n ≤ tt.length + 1
        · rw [decide_eq_true hle]
          obtain ⟨At, ct, eAt, hct, hCt⟩ := Kd.R_reads HE3.out.text
          subst eAt
          go_wp2_with fail
          refine (ahead_at wc HE3.out.box hCt hct hn1 (Nat.le_trans hle.1 h4) hle.2 (by rw [List.length_append, List.length_singleton]; exact Nat.le_refl _) rfl rfl).mono ?_
          rintro e wd ⟨r0, r1, r2, r3, rfl, hkey, hb⟩
          have HKEY := Lib.hid hkey
          have HEd := Lib.hid (HE3.out.below hb)
          have HFRd := Lib.hid (HFR3.out.trans (Fr.of_below hb))
          clear hkey hb HE3 HFR3 hct hCt km
          go_upto_region 10 with (fail)
          obtain ⟨we, hwe⟩ : ∃ x, x = wd.alloc (.cells #[.int .i64 n, .int .i64 r0, .int .i64 r1, .int .i64 r2, .int .i64 r3] 72) := ⟨_, rfl⟩
          rw [← hwe]
          obtain ⟨gb, hgb⟩ : ∃ g, g = wd.heap.size := ⟨_, rfl⟩
          rw [← hgb]
          have bb : we.heap[gb]? = some (.cells #[.int .i64 n, .int .i64 r0, .int .i64 r1, .int .i64 r2, .int .i64 r3] 72 (0, 0)) := by rw [hwe, hgb]; exact blk_new _ _
          have hEe : IdxE we F B m most (tt ++ [y]) (ocN most n tt y) (.slice At (tt ++ [y]).length ct) es3 clock3 := by rw [hwe]; exact HEd.out.below (below_alloc (Below.refl _ _) _)
          have hfe : Fr F w we := by rw [hwe]; exact HFRd.out.trans (Fr.of_below (below_alloc (Below.refl _ _) _))
          have HFe := Lib.hid hfe
          have HGe : Hid (∀ k, we.heap.size ≤ k → F k) := Lib.hid (fun k hk => HF.out k (Nat.le_trans hfe.size hk))
          have hg : Gram (gramAt (tt ++ [y]) (tt.length + 1) n) := gramAt_gram (HWF.out) hn1 (Nat.le_trans hle.1 h4) hle.2 (by rw [List.length_append, List.length_singleton]; exact Nat.le_refl _)
          obtain ⟨g, hgg⟩ : ∃ g, gramAt (tt ++ [y]) (tt.length + 1) n = g := ⟨_, rfl⟩
          rw [hgg] at hg
          have hkey := HKEY.out
          rw [hgg] at hkey
          have HGG := Lib.hid hgg
          obtain ⟨v0, st, es4, clock4, hME, hR0, hfin⟩ := hEe.entry_step hg
          rw [← hkey] at hME
          have HR0 := Lib.hid hR0
          have HFIN := Lib.hid hfin
          have hmlt : m < we.heap.size := blk_lt hEe.map
          have m1 := hME we.drew rfl
          have m2 := hME (we.alloc (.cells #[.int .i64 ((tt.length : Int) + 1)] 3 (0, 0))).drew (Below.heap_alloc we _ m hmlt)
          have c0 : we.cell? ⟨gb, 0, none⟩ = some (.int .i64 n) := (blk_cell bb 0).trans rfl
          have c1 : we.cell? ⟨gb, 1, none⟩ = some (.int .i64 r0) := (blk_cell bb 1).trans rfl
          have c2 : we.cell? ⟨gb, 2, none⟩ = some (.int .i64 r1) := (blk_cell bb 2).trans rfl
          have c3 : we.cell? ⟨gb, 3, none⟩ = some (.int .i64 r2) := (blk_cell bb 3).trans rfl
          have c4 : we.cell? ⟨gb, 4, none⟩ = some (.int .i64 r3) := (blk_cell bb 4).trans rfl
          have km : we.cell? ⟨B, 2, none⟩ = some (.map (some m)) := (blk_cell hEe.box 2).trans rfl
          have HEe := Lib.hid hEe
          have HMLT := Lib.hid hmlt
          have HO2 := Lib.hid (ocN_step (most := most) (n := n) (t := tt) (x := y) hn1 hle.1 hle.2)
          have hln : ((ocN most n tt y g).length + 1) * 8 ≤ 140737488355328 := by
            have := ocN_length (most := most) (n := n) (y := y) (t := tt) hg (by rw [← HGG.out]; exact gramAt_length hle.2 (by simp))
            have := HLT.out
            omega
          have HLN := Lib.hid hln
          clear hln
          have ba := blk_alloc bb (.cells #[.int .i64 ((tt.length : Int) + 1)] 3 (0, 0))
          have c0a : (we.alloc (.cells #[.int .i64 ((tt.length : Int) + 1)] 3 (0, 0))).drew.cell? ⟨gb, 0, none⟩ = some (.int .i64 n) := (blk_cell ba 0).trans rfl
          have c1a : (we.alloc (.cells #[.int .i64 ((tt.length : Int) + 1)] 3 (0, 0))).drew.cell? ⟨gb, 1, none⟩ = some (.int .i64 r0) := (blk_cell ba 1).trans rfl
          have c2a : (we.alloc (.cells #[.int .i64 ((tt.length : Int) + 1)] 3 (0, 0))).drew.cell? ⟨gb, 2, none⟩ = some (.int .i64 r1) := (blk_cell ba 2).trans rfl
          have c3a : (we.alloc (.cells #[.int .i64 ((tt.length : Int) + 1)] 3 (0, 0))).drew.cell? ⟨gb, 3, none⟩ = some (.int .i64 r2) := (blk_cell ba 3).trans rfl
          have c4a : (we.alloc (.cells #[.int .i64 ((tt.length : Int) + 1)] 3 (0, 0))).drew.cell? ⟨gb, 4, none⟩ = some (.int .i64 r3) := (blk_cell ba 4).trans rfl
          have kma : (we.alloc (.cells #[.int .i64 ((tt.length : Int) + 1)] 3 (0, 0))).drew.cell? ⟨B, 2, none⟩ = some (.map (some m)) := (blk_cell (blk_alloc hEe.box _) 2).trans rfl
          have HSZ : Hid (we.heap.size = (setBlock we.drew m (.map es4 clock4)).heap.size) := Lib.hid (by show _ = (we.heap.setIfInBounds m _).size; rw [Array.size_setIfInBounds])
          clear ba
          clear hwe hgb bb hEe hfe hg hgg hkey hME hR0 hfin hmlt HEd HFRd HKEY
          have HFX : Hid (Fr (fun k => k = m ∨ we.heap.size ≤ k) we (setBlock we.drew m (.map es4 clock4))) := Lib.hid ((Fr.of_below (below_drew (Below.refl _ _))).setBlock (Or.inl rfl) _)
          have HMX : Hid ((setBlock we.drew m (.map es4 clock4)).heap[m]? = some (.map es4 clock4)) := Lib.hid (setBlock_at (w := we.drew) HMLT.out)
          go_region_law (refine appI_step rfl (.tmp 51) (.tmp 53) rfl v0 (ocN most n tt y g) ((tt.length : Int) + 1) (F := F) (W := setBlock we.drew m (.map es4 clock4)) (N := we.heap.size) (by simp [Act.eval, Act.put]) (by simp [Act.eval, Act.put]) HSZ.out (by first | rfl | exact setBlock_alloc (w := we.drew) HMLT.out) (R_setBlock (w := we.drew) (Kd.R_drew HR0.out) HEe.out.map _) (fun k hk => HGe.out k (HSZ.out ▸ hk)) HLN.out ?_; intro v1 wf ho hgw hat; obtain ⟨es5, hES, hE5⟩ := HFIN.out _ wf v1 _ HFX.out HMX.out hgw ho hat; have hES' : (Instr.entryStore 66 (.map (some m)) (.int .i64 st) v1).run Try.prog wf = .ok () (setBlock wf m (.map es5 clock4)) := hES; have HE5 := Lib.hid hE5; have HF5 : Hid (Fr F we (setBlock wf m (.map es5 clock4))) := Lib.hid (((HFX.out.mono (fun k hk => hk.elim (fun e => e ▸ HEe.out.fm) (fun h => HGe.out k h))).trans (Fr.of_grown hgw (fun k hk => HR0.out.1 k hk))).setBlock HEe.out.fm _); clear ho hgw hat hES hE5)
          all_goals clear m1 m2 c0 c1 c2 c3 c4 c0a c1a c2a c3a c4a km kma
          all_goals go_wp2
          all_goals refine ⟨⟨n + 1, rfl, by omega, by omega, by omega, (HE5.out.congr (fun g' hg' => by have := HO2.out; rw [HGG.out] at this; exact this g')).shut, HFe.out.trans HF5.out⟩, by simp [intOf]; omega⟩
        · rw [decide_eq_false hle]
          have hend : Idx wc F B m most (tt ++ [y]) (ocM most (tt ++ [y])) := (HE3.out.congr (fun g hg => ocN_last (by omega) g)).shut
          have HEND := Lib.hid hend
          clear hend HE3
          go_wp2_with fail
          have hw : wrap64 ((i : Int) + 1) = ((i + 1 : Nat) : Int) := by rw [IntWalk.wrap64_in _ (by have := HL.out; omega)]; omega
          rw [hw]
          have htk : t ++ ts.take (i + 1) = tt ++ [y] := by
            rw [← HTT.out, List.append_assoc, take_step (by rw [HK.out]; exact hlt), ← HY.out, rd_nth]
          exact ⟨⟨i + 1, rfl, by rw [HK.out]; omega, by rw [htk]; exact HEND.out, HFR3.out⟩, by simp [intOf]; omega⟩
    · have hlt' : decide ((i : Int) < (k : Int)) = false := decide_eq_false (by omega)
      obtain rfl : k = i := by omega
      have HI2 : Hid (Idx wa F B m most (t ++ ts) (ocM most (t ++ ts))) := Lib.hid (by have := HI1.out; rwa [List.take_of_length_le (by rw [HK.out]; exact Nat.le_refl _)] at this)
      clear HI1
      go_wp2
      go_end0
      exact ⟨rfl, HI2.out, HFR.out⟩
end Go.Proofs.Ytjeofkobefeigaa.Wk
/- The walk of ngram's places: the places of the longest run of the end that stood before. -/
namespace Go.Proofs.Ytjeofkobefeigaa.Wk
open Go.RowKit Go.Proofs.YtjeofkobefeigaaW.PrintWords Go.Proofs.YtjeofkobefeigaaW.PrintLast Go.Proofs.YtjeofkobefeigaaW.PrintMore Go.Proofs.Ytjeofkobefeigaa.Mp
open Go.ChangeMaps (setBlock)
attribute [local go_sem] max2_int min2_int max_two min_two

/-- The places of the longest run of at most n tokens of the end, rising. -/
def placesN (t : List Int) : Nat → List Int
  | 0 => []
  | n + 1 => if 1 < (occ t (gramAt t t.length (n + 1))).length then (occ t (gramAt t t.length (n + 1))).take ((occ t (gramAt t t.length (n + 1))).length - 1) else placesN t n
def placesL (most : Nat) (t : List Int) : List Int := placesN t (min most t.length)
theorem IdxE.look {w : World} {F : Nat → Prop} {B m : Nat} {most : Int} {t : List Int} {O : List Int → List Int} {tv : Value} {es : Array MapEntry} {clock : Nat} (h : IdxE w F B m most t O tv es clock) {g : List Int} (hg : Gram g) :
    ∃ v0, (∀ W : World, W.heap[m]? = w.heap[m]? → (Instr.lookup 66 (.map (some m)) (keyG g) false).run Try.prog W = .ok v0 W) ∧ Kd.R (Kd.int .i64) 3 w 0 F v0 (O g) := by
  rcases Mp.look h.map h.ends.keysOk (key_ok hg) with ⟨h1, _⟩ | ⟨j, e0, h1, h2, _⟩
  · refine ⟨.slice none 0 0, fun W hW => ?_, by rw [h.ends.none g hg h1]; exact R_nilA⟩
    rcases Mp.look (hW.trans h.map) h.ends.keysOk (key_ok hg) with ⟨_, h3⟩ | ⟨j, e0, h2, h3, _⟩
    · exact h3
    · exact absurd h3 (h1 e0 (List.mem_of_getElem? h2))
  · obtain ⟨g1, hg1, hk1, hR⟩ := h.ends.row j e0 h1
    have := keyG_inj hg1 hg (hk1.symm.trans h2)
    subst this
    refine ⟨e0.val, fun W hW => ?_, hR⟩
    rcases Mp.look (hW.trans h.map) h.ends.keysOk (key_ok hg) with ⟨h3, _⟩ | ⟨j', e0', h3, h4, h5⟩
    · exact absurd h2 (h3 e0 (List.mem_of_getElem? h1))
    · have hjj : j' = j := by
        obtain ⟨hil, hi2⟩ := List.getElem?_eq_some_iff.1 h3
        obtain ⟨hjl, hj2⟩ := List.getElem?_eq_some_iff.1 h1
        have hp := List.pairwise_iff_getElem.1 h.ends.keys
        have e2 : es.toList[j'].key = es.toList[j].key := by rw [hi2, hj2, h4, h2]
        rcases Nat.lt_trichotomy j' j with c | c | c
        · have := hp j' j (by simpa using hil) (by simpa using hjl) c
          simp only [List.getElem_map] at this
          exact absurd e2 this
        · exact c
        · have := hp j j' (by simpa using hjl) (by simpa using hil) c
          simp only [List.getElem_map] at this
          exact absurd e2.symm this
      subst hjj
      rw [h1] at h3
      rw [Option.some.inj h3]
      exact h5
theorem occ_mem {t g : List Int} {x : Int} (h : x ∈ occ t g) : ∃ q : Nat, x = q ∧ g.length ≤ q ∧ q ≤ t.length ∧ gramAt t q g.length = g := by
  unfold occ at h
  obtain ⟨q, hq, rfl⟩ := List.mem_map.1 h
  obtain ⟨h1, h2⟩ := List.mem_filter.1 hq
  have := List.mem_range.1 h1
  unfold at? at h2
  simp at h2
  exact ⟨q, rfl, h2.1, by omega, h2.2⟩
theorem ahead_same {B m : Nat} {most : Int} {At : Option Addr} {ct : Nat} {t : List Int} (w : World) (hB : w.heap[B]? = some (.cells #[.int .i64 most, .slice At t.length ct, .map (some m)] 68 (0, 0))) (hC : Kd.C (Kd.int .i64) w At t.length t) (hc : t.length ≤ ct)
    {p n : Nat} (h1 : 1 ≤ n) (h4 : n ≤ 4) (hnp : n ≤ p) (hp : p ≤ t.length) {pv nv : Int} (hpv : pv = p) (hnv : nv = n) {g : List Int} (hg : gramAt t p n = g) {v : Value} (hv : v = keyG g) :
    Calls Try.prog 37 #[.pointer (some ⟨B, 0, none⟩), .int .i64 pv, .int .i64 nv] w fun e w' => e = .returned v ∧ Below w.heap.size w w' := by
  subst hpv hnv hv
  refine (ahead_calls w hB hC hc h1 h4 hnp hp).mono ?_
  rintro e w' ⟨rfl, hb⟩
  exact ⟨by rw [key_run hnp hp, hg], hb⟩
theorem eq70 (r0 r1 r2 r3 : Int) (W : World) : (Op.equalIn 10000 70 (.agg #[.int .i64 r0, .int .i64 r1, .int .i64 r2, .int .i64 r3]) (.agg #[.int .i64 r0, .int .i64 r1, .int .i64 r2, .int .i64 r3])).run Try.prog W = .ok true W := by
  obtain ⟨i0, hi0, _⟩ := info_parts info3
  have c3 : Try.prog.cellsOf 3 = 1 := by kernel_rfl
  have hpl : Try.prog.plainKey 3 = true := by kernel_rfl
  have hi : ∀ (d : Nat) (r : Int) (W : World), (Op.equalIn (d + 1) 3 (.int .i64 r) (.int .i64 r)).run Try.prog W = .ok true W := fun d r W => by
    simp [Op.equalIn, run_underlying Try.underlying3, Result.andThen]
  rw [show (10000 : Nat) = 9999 + 1 from rfl, run_equalIn_array W 9999 _ _ Try.underlying70 hi0, c3]
  have p : ∀ (j : Nat) (v : Value), (#[Value.int .i64 r0, .int .i64 r1, .int .i64 r2, .int .i64 r3])[j]? = some v → (part 3 #[.int .i64 r0, .int .i64 r1, .int .i64 r2, .int .i64 r3] j).run Try.prog W = .ok v W := fun j v h => run_part_plain W hpl h
  have p0 := p 0 _ rfl
  have p1 := p 1 _ rfl
  have p2 := p 2 _ rfl
  have p3 := p 3 _ rfl
  simp [List.range, List.range.loop, Op.eqItems, p0, p1, p2, p3, hi 9998, Result.andThen]
theorem field1 (n r0 r1 r2 r3 : Int) (W : World) : (Instr.field 72 (.agg #[.int .i64 n, .int .i64 r0, .int .i64 r1, .int .i64 r2, .int .i64 r3]) 1).run Try.prog W = .ok (.agg #[.int .i64 r0, .int .i64 r1, .int .i64 r2, .int .i64 r3]) W := by
  obtain ⟨i0, hi0, h1, h2, _⟩ := info_parts (P := Try.prog) (e := 70) (z := .agg #[.int .i64 0, .int .i64 0, .int .i64 0, .int .i64 0]) (size := 4) (bytes := 32) (by kernel_rfl)
  simp [Instr.field, run_underlying Try.underlying72, asAgg, part, isAgg, run_underlying Try.underlying70, sizeOf, typeInfo, hi0, h2, Result.andThen]
def P1Rel (w : World) (most : Nat) (t : List Int) (x : Value) (wr : World) : Prop :=
  ∃ n : Nat, x = .int .i64 n ∧ n ≤ most ∧ n ≤ t.length ∧ placesL most t = placesN t n ∧ Below w.heap.size w wr
set_option maxHeartbeats 4000000 in
set_option maxRecDepth 100000 in
theorem inner_calls {F : Nat → Prop} {B m most : Nat} {t : List Int} (w : World) (hI : Idx w F B m most t (ocM most t)) (h4 : most ≤ 4) (ht : ∀ x ∈ t, (Lit.int .i64 x).wf = true) (hl : t.length * 8 ≤ 140737488355328) :
    Calls Try.prog 39 #[.pointer (some ⟨B, 0, none⟩)] w fun e w' => ∃ v, e = .returned v ∧ Kd.R (Kd.int .i64) 3 w' w.heap.size (fun _ => True) v (placesL most t) ∧ Below w.heap.size w w' := by
  obtain ⟨tv, es, clock, hE⟩ := hI.open
  obtain ⟨At, ct, eAt, hct, hCt⟩ := Kd.R_reads hE.text
  subst eAt
  have HE := Lib.hid hE
  have HT := Lib.hid ht
  have HL := Lib.hid hl
  have HCT := Lib.hid hct
  have HC := Lib.hid hCt
  have kt : w.cell? ⟨B, 1, none⟩ = some (.slice At t.length ct) := (blk_cell hE.box 1).trans rfl
  have km : w.cell? ⟨B, 0, none⟩ = some (.int .i64 (most : Int)) := (blk_cell hE.box 0).trans rfl
  clear hI hE ht hl hct hCt
  go_enter Try.func39, Try.ntmps39
  go_upto_region 4 with (fail)
  go_cut [4] (fun s4 wx => w = wx ∧ s4 = .int .i64 (min most t.length : Nat))
  case first =>
    go_wp2_with fail
    all_goals go_meet
    all_goals refine ⟨rfl, ?_⟩
    all_goals (congr 1; omega)
  case rest =>
  obtain ⟨rfl, rfl⟩ := hcut
  clear kt km
  go_wp2_with fail
  go_loopw [4] (fun x wr => P1Rel w most t x wr) (fun x _ => (intOf x).toNat)
  case atStart => exact ⟨_, rfl, by omega, by omega, rfl, Below.refl _ _⟩
  case round =>
    obtain ⟨n, rfl, hn1, hn2, hpl, hb⟩ := hrel
    have HPL := Lib.hid hpl
    have HB := Lib.hid hb
    clear hpl hb
    rename World => wa
    by_cases hpos : n = 0
    · have hlt' : decide (0 < n) = false := decide_eq_false (by omega)
      have HN0 := Lib.hid hpos
      clear hpos hn1 hn2
      go_wp2
      go_ret
      exact ⟨_, rfl, by rw [HPL.out, HN0.out]; exact Kd.R_nil _ _ _ _ _, HB.out⟩
    · have hlt' : decide (0 < n) = true := decide_eq_true (by omega)
      have HN1 : Hid (1 ≤ n) := Lib.hid (by omega)
      have HN2 := Lib.hid hn1
      have HN3 := Lib.hid hn2
      clear hpos hn1 hn2
      go_wp2_with fail
      refine (ahead_at wa (blk_below HE.out.box HB.out) (Kd.C_below HC.out HB.out) HCT.out HN1.out (Nat.le_trans HN2.out h4) HN3.out (Nat.le_refl _) rfl rfl).mono ?_
      rintro e wd ⟨r0, r1, r2, r3, rfl, hkey, hb⟩
      obtain ⟨g, hgg⟩ : ∃ g, gramAt t t.length n = g := ⟨_, rfl⟩
      rw [hgg] at hkey
      have hg : Gram g := hgg ▸ gramAt_gram HT.out HN1.out (Nat.le_trans HN2.out h4) HN3.out (Nat.le_refl _)
      have HGL : Hid (g.length = n) := Lib.hid (hgg ▸ gramAt_length HN3.out (Nat.le_refl _))
      have HGG := Lib.hid hgg
      have hEd := HE.out.below (HB.out.trans (hb.mono HB.out.size))
      have HBd := Lib.hid (HB.out.trans (hb.mono HB.out.size))
      have HK := Lib.hid hkey
      have HEd := Lib.hid hEd
      have HG := Lib.hid hg
      clear hlt' hgg hb HB hkey hEd hg
      go_upto_region 8 with (fail)
      obtain ⟨we, hwe⟩ : ∃ x, x = wd.alloc (.cells #[.int .i64 n, .int .i64 r0, .int .i64 r1, .int .i64 r2, .int .i64 r3] 72) := ⟨_, rfl⟩
      rw [← hwe]
      obtain ⟨gb, hgb⟩ : ∃ g, g = wd.heap.size := ⟨_, rfl⟩
      rw [← hgb]
      have bb : we.heap[gb]? = some (.cells #[.int .i64 n, .int .i64 r0, .int .i64 r1, .int .i64 r2, .int .i64 r3] 72 (0, 0)) := by rw [hwe, hgb]; exact blk_new _ _
      have hEe : IdxE we F B m most t (ocM most t) (.slice At t.length ct) es clock := by rw [hwe]; exact HEd.out.below (below_alloc (Below.refl _ _) _)
      have HBe : Hid (Below w.heap.size w we) := Lib.hid (by rw [hwe]; exact below_alloc HBd.out _)
      obtain ⟨v0, hlook, hR0⟩ := hEe.look HG.out
      rw [← HK.out] at hlook
      have hlook1 := hlook we rfl
      have hlook2 := hlook we.drew rfl
      clear hlook
      obtain ⟨l, hl⟩ : ∃ l, l = ocM most t g := ⟨_, rfl⟩
      have HLo : Hid (l = occ t g) := Lib.hid (by rw [hl]; unfold ocM; rw [if_pos (by have := HGL.out; have := HN2.out; omega)])
      rw [← hl] at hR0
      obtain ⟨L, hL⟩ : ∃ L, l.length = L := ⟨_, rfl⟩
      obtain ⟨A0, cc, e0, hc0, hC0⟩ := Kd.R_reads hR0
      rw [hL] at e0 hc0
      subst e0
      have c0 : we.cell? ⟨gb, 0, none⟩ = some (.int .i64 n) := (blk_cell bb 0).trans rfl
      have c1 : we.cell? ⟨gb, 1, none⟩ = some (.int .i64 r0) := (blk_cell bb 1).trans rfl
      have c2 : we.cell? ⟨gb, 2, none⟩ = some (.int .i64 r1) := (blk_cell bb 2).trans rfl
      have c3 : we.cell? ⟨gb, 3, none⟩ = some (.int .i64 r2) := (blk_cell bb 3).trans rfl
      have c4 : we.cell? ⟨gb, 4, none⟩ = some (.int .i64 r3) := (blk_cell bb 4).trans rfl
      have km : we.cell? ⟨B, 2, none⟩ = some (.map (some m)) := (blk_cell hEe.box 2).trans rfl
      have BB := Lib.hid bb
      have HEe := Lib.hid hEe
      have HLL := Lib.hid hL
      have HC0 := Lib.hid hC0
      have HR0 := Lib.hid hR0
      have HCC := Lib.hid hc0
      clear hwe hgb bb hEe hl hL hc0 hC0 hR0 HEd HBd HE
      go_region
      go_upto_region 9 with (fail)
      obtain ⟨wf, hwf⟩ : ∃ x, x = we.drew := ⟨_, rfl⟩
      rw [← hwf]
      have BBf : Hid (wf.heap[gb]? = some (.cells #[.int .i64 n, .int .i64 r0, .int .i64 r1, .int .i64 r2, .int .i64 r3] 72 (0, 0))) := Lib.hid (by rw [hwf]; exact BB.out)
      have HEf : Hid (IdxE wf F B m most t (ocM most t) (.slice At t.length ct) es clock) := Lib.hid (by rw [hwf]; exact HEe.out.below (below_drew (Below.refl _ _)))
      have HBf : Hid (Below w.heap.size w wf) := Lib.hid (by rw [hwf]; exact below_drew HBe.out)
      have HC0f : Hid (Kd.C (Kd.int .i64) wf A0 l.length l) := Lib.hid (by rw [hwf]; exact Kd.C_below HC0.out (below_drew (Below.refl _ _)))
      have HCf : Hid (Kd.C (Kd.int .i64) wf At t.length t) := Lib.hid (Kd.C_below HC.out HBf.out)
      clear hwf c0 c1 c2 c3 c4 km hlook1 hlook2 BB HEe HBe HC0 HR0
      by_cases hL1 : 1 < L
      · have hd1 : decide ((1 : Int) < (L : Int)) = true := decide_eq_true (by omega)
        have hd2 : decide (1 < L) = true := decide_eq_true hL1
        obtain ⟨ad, e1, k0⟩ := Kd.at_int HC0f.out (0 : Int) (by omega) (by rw [HLL.out]; omega)
        subst e1
        have hmem : rd l 0 ∈ occ t g := by
          rw [← HLo.out, show (0 : Int) = ((0 : Nat) : Int) from rfl, rd_nth]
          unfold nth
          rw [List.getD_eq_getElem?_getD, List.getElem?_eq_getElem (by rw [HLL.out]; omega)]
          exact List.getElem_mem _
        obtain ⟨q, hq, hq1, hq2, hq3⟩ := occ_mem hmem
        rw [HGL.out] at hq1 hq3
        rw [hq] at k0
        have e0 : ad.add (0 : Int).toNat = ad := by cases ad; rfl
        rw [e0] at k0
        have HQ1 := Lib.hid hq1
        have HQ2 := Lib.hid hq2
        have HQ3 := Lib.hid hq3
        have q1 : (0 : Int) < (L : Int) := by omega
        have q2 : 0 < L := by omega
        have c0 : wf.cell? ⟨gb, 1, none⟩ = some (.int .i64 r0) := (blk_cell BBf.out 1).trans rfl
        have c1 : wf.cell? ⟨gb, 2, none⟩ = some (.int .i64 r1) := (blk_cell BBf.out 2).trans rfl
        have c2 : wf.cell? ⟨gb, 3, none⟩ = some (.int .i64 r2) := (blk_cell BBf.out 3).trans rfl
        have c3 : wf.cell? ⟨gb, 4, none⟩ = some (.int .i64 r3) := (blk_cell BBf.out 4).trans rfl
        have hfld := field1 (n : Int) r0 r1 r2 r3
        have heq := eq70 r0 r1 r2 r3
        clear hmem hq hq1 hq2 hq3 e0
        go_region_held3 (fun w' => w'.cell? ⟨gb, 1, none⟩ = some (.int .i64 r0) ∧ w'.cell? ⟨gb, 2, none⟩ = some (.int .i64 r1) ∧ w'.cell? ⟨gb, 3, none⟩ = some (.int .i64 r2) ∧ w'.cell? ⟨gb, 4, none⟩ = some (.int .i64 r3) ∧ w'.cell? ad = some (.int .i64 q))
          (first | exact ⟨c0, c1, c2, c3, k0⟩ | exact ⟨pw_cell_below hb7 c0, pw_cell_below hb7 c1, pw_cell_below hb7 c2, pw_cell_below hb7 c3, pw_cell_below hb7 k0⟩)
          (first | (go_at_call 37; refine (ahead_same wf.drew HEf.out.box (Kd.C_drew HCf.out) HCT.out HN1.out (Nat.le_trans HN2.out h4) HQ1.out HQ2.out rfl rfl HQ3.out HK.out).mono ?_; rintro e w7 ⟨rfl, hb7⟩))
        rename_i hheld
        clear hheld c0 c1 c2 c3 k0 hfld heq
        have HBg : Hid (Below w.heap.size w w7) := Lib.hid (HBf.out.trans ((below_drew (Below.refl w.heap.size wf)).trans (hb7.mono HBf.out.size)))
        have hC7 := Kd.C_below HC0f.out ((below_drew (Below.refl wf.heap.size wf)).trans hb7)
        clear hb7
        obtain ⟨L0, hL0⟩ : ∃ L0, L0 + 1 = L := ⟨L - 1, by omega⟩
        have hw1 : wrap64 ((L : Int) - 1) = (L0 : Int) := by rw [IntWalk.wrap64_in _ (by have := Kd.C_max hC7; rw [HLL.out] at this; omega)]; omega
        have hw2 : IntKind.i64.wrap ((L : Int) - 1) = (L0 : Int) := by rw [IntWalk.i64_in _ (by have := Kd.C_max hC7; rw [HLL.out] at this; omega)]; omega
        obtain ⟨i0, hi0, _, hsz, _⟩ := info_parts info3
        have hcut := cut_to (P := Try.prog) 22 3 .i64 Try.underlying22 hi0 (some ad) L cc (L0 : Int) (by omega) (by omega) HCC.out
        rw [Int.toNat_natCast] at hcut
        have hCt := Kd.C_take hC7 (m := L0) (by rw [HLL.out]; omega)
        rw [show (l.take L0).length = L0 by rw [List.length_take, HLL.out]; omega] at hCt
        have HCt := Lib.hid hCt
        have HLEN : Hid ((0 + L0) * 8 ≤ 140737488355328) := Lib.hid (by
          have h1 := occ_length1 (t := t) HG.out
          rw [← HLo.out, HLL.out] at h1
          have := HL.out
          omega)
        have HRES : Hid (l.take L0 = placesL most t) := Lib.hid (by
          rw [HPL.out]
          obtain ⟨n1, hn1⟩ : ∃ n1, n = n1 + 1 := ⟨n - 1, by have := HN1.out; omega⟩
          have hg := HGG.out
          rw [hn1] at hg ⊢
          unfold placesN
          rw [hg, ← HLo.out, HLL.out, if_pos hL1, ← hL0]; rfl)
        clear hi0 hsz hC7 hCt q1 q2 hd1 hd2 hL0
        go_wp2_with (first | ((with_reducible refine gate_builtin (b := .append) (xs := #[.const (.slice none 0 0), .tmp 53]) rfl ?_); at_builtin; refine Kd.R_append_row (fun x => .int .i64 x) (0 : Int) (h1 := fun _ => rfl) (w0 := w) w.heap.size rfl (.const (.slice none 0 0)) (.tmp 53) 22 3 (.int .i64 0) 8 rfl Try.underlying22 info3 rfl (by omega) (.slice none 0 0) [] (l.take L0) (some ad) L0 cc (fun _ => True) rfl rfl (fun _ _ => trivial) (Kd.R_nil _ _ _ _ _) HCt.out HBg.out (below_size HBg.out) HLEN.out ?_; intro v1 w8 ho hb hg hat))
        go_ret
        rw [List.nil_append, HRES.out] at ho
        exact ⟨_, rfl, ho, hb⟩
      · have hd1 : decide ((1 : Int) < (L : Int)) = false := decide_eq_false (by omega)
        have hd2 : decide (1 < L) = false := decide_eq_false hL1
        obtain ⟨n1, hn1⟩ : ∃ n1, n1 + 1 = n := ⟨n - 1, by have := HN1.out; omega⟩
        have hw1 : wrap64 ((n : Int) - 1) = (n1 : Int) := by rw [IntWalk.wrap64_in _ (by have := HN2.out; omega)]; omega
        have hpl : placesL most t = placesN t n1 := by
          rw [HPL.out]
          have hg := HGG.out
          rw [← hn1] at hg ⊢
          rw [placesN, hg, ← HLo.out, HLL.out, if_neg hL1]
        have HP1 := Lib.hid hpl
        have HW1 := Lib.hid hw1
        have HNN := Lib.hid hn1
        clear hpl hw1 hn1
        go_region
        go_wp2_with fail
        rw [HW1.out]
        exact ⟨⟨n1, rfl, by have := HNN.out; have := HN2.out; omega, by have := HNN.out; have := HN3.out; omega, HP1.out, below_drew HBf.out⟩, by have := HNN.out; simp [intOf]; omega⟩
theorem inner_none (w : World) : Calls Try.prog 39 #[.pointer none] w fun e w' => e = .returned (.slice none 0 0) ∧ w' = w := by
  go_enter Try.func39, Try.ntmps39
  go_wp2
  go_ret
  exact ⟨rfl, rfl⟩
end Go.Proofs.Ytjeofkobefeigaa.Wk
