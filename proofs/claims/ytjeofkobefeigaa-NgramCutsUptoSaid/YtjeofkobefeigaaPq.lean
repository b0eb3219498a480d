/- What Propose answers, plainly; own rows of nodes; a region that draws its order in a round, walked by hand. -/
import Derived.Test.YtjeofkobefeigaaBr
import Derived.Test.YtjeofkobefeigaaPEqRawx2
set_option linter.unusedVariables false
set_option linter.unusedSimpArgs false
namespace Go.Proofs.Ytjeofkobefeigaa.Wk
open Go.RowKit Go.Shelf Go.Proofs.YtjeofkobefeigaaW.PrintWords Go.Proofs.YtjeofkobefeigaaW.PrintLast Go.Proofs.YtjeofkobefeigaaW.PrintMore Go.Proofs.Ytjeofkobefeigaa.Mp Go.Proofs.Ytjeofkobefeigaa.PEqRaw
open Go.ChangeMaps (setBlock)
attribute [local go_sem] Oper.semAt_some

/-- One chain: the tokens behind place p, at most so many. -/
def chainN (t : List Int) (p : Nat) (out : List S35) (k : Nat) : List S35 := out ++ (List.range k).map fun j => ⟨if j = 0 then -1 else (out.length : Int) + j - 1, nth t (p + j)⟩
/-- How deep a chain goes. -/
def deepN (t : List Int) (deep : Int) (p n : Nat) : Nat := min (min deep.toNat (t.length - p)) (96 - n)
def chain (t : List Int) (deep : Int) (out : List S35) (p : Int) : List S35 := chainN t p.toNat out (deepN t deep p.toNat out.length)
def proposeL (t : List Int) (deep : Int) (pl : List Int) : List S35 := pl.foldl (chain t deep) []
theorem proposeL_snoc (t : List Int) (deep : Int) (pl : List Int) (p : Int) : proposeL t deep (pl ++ [p]) = chain t deep (proposeL t deep pl) p := by
  unfold proposeL; rw [List.foldl_append]; rfl
theorem chainN_length (t : List Int) (p : Nat) (out : List S35) (k : Nat) : (chainN t p out k).length = out.length + k := by
  unfold chainN; rw [List.length_append, List.length_map, List.length_range]
theorem chainN_zero (t : List Int) (p : Nat) (out : List S35) : chainN t p out 0 = out := by unfold chainN; simp
theorem chainN_succ (t : List Int) (p : Nat) (out : List S35) (k : Nat) : chainN t p out (k + 1) = chainN t p out k ++ [⟨if k = 0 then -1 else (out.length : Int) + k - 1, nth t (p + k)⟩] := by
  unfold chainN; rw [List.range_succ, List.map_append, List.append_assoc]; rfl
theorem chain_le {t : List Int} {deep : Int} {out : List S35} {p : Int} (h : out.length ≤ 96) : (chain t deep out p).length ≤ 96 := by
  unfold chain deepN; rw [chainN_length]; omega
theorem proposeL_le (t : List Int) (deep : Int) : ∀ (pl : List Int), (proposeL t deep pl).length ≤ 96 := by
  unfold proposeL
  suffices h : ∀ (pl : List Int) (out : List S35), out.length ≤ 96 → (pl.foldl (chain t deep) out).length ≤ 96 from fun pl => h pl [] (by simp)
  intro pl
  induction pl with
  | nil => exact fun out h => h
  | cons p pl ih => exact fun out h => ih _ (chain_le h)

theorem info35 : (Try.prog.info? 35).map (fun i => (i.zero, i.size, i.bytes)) = some (some (.agg #[.int .i64 0, .int .i64 0]), k35.sz, 16) := by kernel_rfl
theorem R35_same {w w1 : World} {base : Nat} {F : Nat → Prop} {v : Value} {xs : List S35} (h : k35.R 35 w base F v xs) (hs : ∀ k, v.ownBlock = some k → w1.heap[k]? = w.heap[k]?) : k35.R 35 w1 base F v xs := by
  obtain ⟨h0, inner, hown, hr⟩ := h
  refine ⟨h0, inner, ⟨hown.1, ?_⟩, hr⟩
  rcases hown.2 with h1 | ⟨g, cap, cur, rfl, h2, hc, h3⟩
  · exact .inl h1
  · exact .inr ⟨g, cap, cur, rfl, h2, (hs g rfl).trans hc, h3⟩
theorem R35_cells {w : World} {base : Nat} {F : Nat → Prop} {v : Value} {xs : List S35} (h : k35.R 35 w base F v xs) : ∀ k, v.ownBlock = some k → base ≤ k ∧ ∃ cs fr, w.heap[k]? = some (.cells cs 35 fr) := fun k hk => by
  obtain ⟨h0, inner, hown, hr⟩ := h
  rcases hown.2 with ⟨rfl, _⟩ | ⟨g, cap, cur, rfl, h2, hc, h3⟩
  · cases hk
  · injection hk with hk
    subst hk
    exact ⟨h2, _, _, hc⟩
theorem R35_nebox {w : World} {base : Nat} {F : Nat → Prop} {v : Value} {xs : List S35} (h : k35.R 35 w base F v xs) {B : Nat} {cs : Array Value} {tt : TypeId} {fr : Nat × Nat} (hB : w.heap[B]? = some (.cells cs tt fr)) (ht : tt ≠ 35) : v.ownBlock ≠ some B := fun e => by
  obtain ⟨_, cs', fr', hc⟩ := R35_cells h B e
  rw [hB] at hc
  injection hc with hc
  injection hc with _ h2
  exact ht h2
/-- A region that draws its order, in a round, walked by hand. -/
theorem startIn_ {P : Program} {ops : Array Oper} {Q : Exit → Act → World → Prop} {S : World → Prop} {ds : List Nat} {id n l0 n0 : Nat} {a : Act} {w : World} (l : Array Bool) (hm : P.follows .mixedOrders = true) (hn : ops.size = n) (hl : Array.replicate n false = l) (hd : noDefer ops = true) (hQ : ¬ LetsOut Q) (hS : S w.drew)
    (h : S w.drew → wpAnyLast P .any ops Q S ds n l a w.drew) : (Code.region id ops true).wpIn (Fence.wide.inRound l0) n0 P Q a w := by
  subst hn
  subst hl
  exact wpIn_region_any hm (any_round hd hQ _ _ _ _ (wpAny_of_last _ _ _ _ (h hS)))
end Go.Proofs.Ytjeofkobefeigaa.Wk
