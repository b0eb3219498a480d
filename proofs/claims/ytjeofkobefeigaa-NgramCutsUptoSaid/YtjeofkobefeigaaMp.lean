/- Maps keyed by a run of tokens: the key's law; one entry asked for and stored back; an entry looked up: at the entries as they lie. -/
import Derived.Test.YtjeofkobefeigaaProg
import Derived.DeepKeys5
import Derived.WideKeyEntry
import Derived.KernelRfl
set_option linter.unusedSimpArgs false
namespace Go.Proofs.Ytjeofkobefeigaa.Mp
open Go.ChangeShapes Go.WideShapes Go.MapKept Go.ChangeMaps Go.WideMaps
open Go.WideElems (findIdx_born findIdx_arr modify_last set_self)

theorem laidOut : laidOutB Try.prog = true := by kernel_rfl
theorem keyLaw : KeyLaw Try.prog 72 := deep_law_gate laidOut (by decide +kernel) (by decide +kernel) (by kernel_rfl) (by rw [Try.underlying72])
/-- The key of a run of n tokens. -/
def keyV (n : Int) (f : Nat → Int) : Value := .agg #[.int .i64 n, .int .i64 (f 0), .int .i64 (f 1), .int .i64 (f 2), .int .i64 (f 3)]
theorem keyOf_keyV {n : Int} {f : Nat → Int} (hn : (Lit.int .i64 n).wf = true) (hf : ∀ j, (Lit.int .i64 (f j)).wf = true) : ∃ l, keyOf Try.prog 72 (keyV n f) = some l := by
  refine ⟨.string (keyBytes [.int .i64 n, .int .i64 (f 0), .int .i64 (f 1), .int .i64 (f 2), .int .i64 (f 3)]), ?_⟩
  have hsz : ∃ m, Try.prog.types.size = m + 3 := ⟨Try.prog.types.size - 3, by kernel_rfl⟩
  obtain ⟨m, hm⟩ := hsz
  have hkt : Try.prog.keyType 72 = true := by kernel_rfl
  have c3 : Try.prog.cellsOf 3 = 1 := by kernel_rfl
  have c70 : Try.prog.cellsOf 70 = 4 := by kernel_rfl
  have c72 : Try.prog.cellsOf 72 = 5 := by kernel_rfl
  unfold keyOf
  rw [Try.underlying72]
  dsimp only
  rw [if_pos (by simp [hkt, Value.formed, Try.underlying72, c72, keyV]), hm]
  simp [Program.keyLits, Try.underlying72, Try.underlying70, Try.underlying3, c3, c70, c72, keyV, Value.cells, hn, hf, List.range, List.range.loop]

theorem zero22 (w : World) : (zeroValue 22).run Try.prog w = .ok (.slice none 0 0) w := by
  have h := Try.zeroValue22
  simp [h]
/-- The keys of entries are keys. -/
def KeysOk (es : List MapEntry) : Prop := ∀ e ∈ es, ∃ l, keyOf Try.prog 72 e.key = some l
/-- Each entry's number is its own, and below the clock. -/
def Stamped (es : List MapEntry) (clock : Nat) : Prop := (∀ x ∈ es, x.born < clock) ∧ (es.map (·.born)).Nodup
theorem stamped_push {es : List MapEntry} {clock : Nat} (h : Stamped es clock) (key v : Value) : Stamped (es ++ [⟨key, v, clock⟩]) (clock + 1) := by
  obtain ⟨s1, s2⟩ := h
  refine ⟨fun x hx => ?_, ?_⟩
  · rcases List.mem_append.1 hx with hx | hx
    · have := s1 x hx; omega
    · obtain rfl := List.mem_singleton.1 hx
      show clock < clock + 1
      omega
  · rw [List.map_append]
    refine List.nodup_append.2 ⟨s2, by simp, fun a ha c hc e1 => ?_⟩
    simp only [List.map_cons, List.map_nil, List.mem_singleton] at hc
    obtain ⟨x, hx, rfl⟩ := List.mem_map.1 ha
    have := s1 x hx
    omega
/-- 'm[k] = ..m[k]..' where k is no key yet. -/
theorem entry_new {w : World} {b : Nat} {es : Array MapEntry} {clock : Nat} (hb : w.heap[b]? = some (.map es clock)) (hk : KeysOk es.toList) (hst : Stamped es.toList clock) {key : Value} (hkey : ∃ l, keyOf Try.prog 72 key = some l) (hno : ∀ e ∈ es.toList, e.key ≠ key) :
    (Instr.mapEntry 66 (.map (some b)) key).run Try.prog w = .ok (.tuple #[.slice none 0 0, goInt clock]) (setBlock w b (.map (es.push ⟨key, .slice none 0 0, clock⟩) (clock + 1))) ∧
      ∀ (w2 : World) (val : Value), w2.heap[b]? = some (.map (es.push ⟨key, .slice none 0 0, clock⟩) (clock + 1)) → (Instr.entryStore 66 (.map (some b)) (goInt clock) val).run Try.prog w2 = .ok () (setBlock w2 b (.map (es.push ⟨key, val, clock⟩) (clock + 1))) := by
  obtain ⟨kl, hkey⟩ := hkey
  obtain ⟨s1, s2⟩ := hst
  rcases keyLaw.find w hkey es.toList hk with ⟨h1, _⟩ | ⟨j, e0, _, h2, h3⟩
  · refine ⟨by simp [Instr.mapEntry, run_underlying Try.underlying66, MapKept.run_getObj_map hb, keyLaw.check w false hkey, h1, zero22, MapKept.run_setObj_map _ hb, Result.andThen, setBlock], fun w2 val hw2 => ?_⟩
    have hidx : (es.push ⟨key, .slice none 0 0, clock⟩).findIdx? (fun e => ((e.born : Nat) : Int) == ((clock : Nat) : Int)) = some es.size := by
      rw [findIdx_arr]
      exact findIdx_born (l := (es.push ⟨key, .slice none 0 0, clock⟩).toList) (j := es.size) (e0 := ⟨key, .slice none 0 0, clock⟩) (by
        rw [Array.toList_push]; exact (stamped_push ⟨s1, s2⟩ key _).2) (by simp)
    have hmod : (es.push ⟨key, .slice none 0 0, clock⟩).modify es.size (fun e => { e with val := val }) = es.push ⟨key, val, clock⟩ := by
      apply Array.ext'
      rw [Array.toList_modify, Array.toList_push, Array.toList_push, ← Array.length_toList, modify_last]
    simp [Instr.entryStore, MapKept.run_getObj_map hw2, asInt, asIntOf, goInt, hidx, hmod, MapKept.run_setObj_map _ hw2, Result.andThen, setBlock]
  · exact absurd h3 (hno e0 (List.mem_of_getElem? h2))
/-- 'm[k] = ..m[k]..' where k is a key. -/
theorem entry_old {w : World} {b : Nat} {es : Array MapEntry} {clock : Nat} (hb : w.heap[b]? = some (.map es clock)) (hk : KeysOk es.toList) (hst : Stamped es.toList clock) {key : Value} (hkey : ∃ l, keyOf Try.prog 72 key = some l) (hyes : ∃ e ∈ es.toList, e.key = key) :
    ∃ (j : Nat) (e0 : MapEntry), es.toList[j]? = some e0 ∧ e0.key = key ∧ (Instr.mapEntry 66 (.map (some b)) key).run Try.prog w = .ok (.tuple #[e0.val, goInt e0.born]) (setBlock w b (.map es clock)) ∧
      ∀ (w2 : World) (val : Value), w2.heap[b]? = some (.map es clock) → (Instr.entryStore 66 (.map (some b)) (goInt e0.born) val).run Try.prog w2 = .ok () (setBlock w2 b (.map (es.modify j (fun e => { e with val := val })) clock)) := by
  obtain ⟨kl, hkey⟩ := hkey
  obtain ⟨s1, s2⟩ := hst
  rcases keyLaw.find w hkey es.toList hk with ⟨_, h2⟩ | ⟨j, e0, h1, h2, h3⟩
  · obtain ⟨e, he, h⟩ := hyes
    exact absurd h (h2 e he)
  · have hj : es[j]? = some e0 := by simpa using h2
    have hsame : es.modify j (fun e => { e with key := key }) = es := by
      apply Array.ext'
      rw [Array.toList_modify, modify_eq_set _ _ _ _ h2]
      have : ({ e0 with key := key } : MapEntry) = e0 := by rw [← h3]
      rw [this]
      exact set_self _ _ _ h2
    refine ⟨j, e0, h2, h3, ?_, fun w2 val hw2 => ?_⟩
    · simp [Instr.mapEntry, run_underlying Try.underlying66, MapKept.run_getObj_map hb, keyLaw.check w false hkey, h1, hj, h3, keyLaw.stays w hkey, hsame, MapKept.run_setObj_map _ hb, Result.andThen, setBlock]
    · have hidx : es.findIdx? (fun e => ((e.born : Nat) : Int) == ((e0.born : Nat) : Int)) = some j := by
        rw [findIdx_arr]
        exact findIdx_born s2 h2
      simp [Instr.entryStore, MapKept.run_getObj_map hw2, asInt, asIntOf, goInt, hidx, MapKept.run_setObj_map _ hw2, Result.andThen, setBlock]
/-- An entry looked up. -/
theorem look {w : World} {b : Nat} {es : Array MapEntry} {clock : Nat} (hb : w.heap[b]? = some (.map es clock)) (hk : KeysOk es.toList) {key : Value} (hkey : ∃ l, keyOf Try.prog 72 key = some l) :
    ((∀ e ∈ es.toList, e.key ≠ key) ∧ (Instr.lookup 66 (.map (some b)) key false).run Try.prog w = .ok (.slice none 0 0) w) ∨
      ∃ (j : Nat) (e0 : MapEntry), es.toList[j]? = some e0 ∧ e0.key = key ∧ (Instr.lookup 66 (.map (some b)) key false).run Try.prog w = .ok e0.val w := by
  obtain ⟨kl, hkey⟩ := hkey
  rcases keyLaw.find w hkey es.toList hk with ⟨h1, h2⟩ | ⟨j, e0, h1, h2, h3⟩
  · exact .inl ⟨h2, by simp [Instr.lookup, run_underlying Try.underlying66, MapKept.run_getObj_map hb, keyLaw.check w _ hkey, h1, zero22, Result.andThen]⟩
  · exact .inr ⟨j, e0, h2, h3, by simp [Instr.lookup, run_underlying Try.underlying66, MapKept.run_getObj_map hb, keyLaw.check w _ hkey, h1, zero22, Result.andThen]⟩
end Go.Proofs.Ytjeofkobefeigaa.Mp
