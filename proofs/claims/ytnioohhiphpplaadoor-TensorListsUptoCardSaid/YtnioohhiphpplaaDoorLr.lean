/- Lists that are halved in place, in the caller's copy and in its twin: what the walk of stale reads. -/
import Derived.Test.YtnioohhiphpplaaDoorLq
set_option linter.unusedVariables false
set_option linter.unusedSimpArgs false
namespace Go.Proofs.YtnioohhiphpplaaDoor.Dp
open Go.RowKit Go.Proofs.YtnioohhiphpplaaDoor.Pplays Go.Proofs.YtnioohhiphpplaaDoorW.PrintWords Go.Proofs.YtnioohhiphpplaaDoorW.PrintLast Go.Proofs.YtnioohhiphpplaaDoorW.PrintMore Go.Proofs.YtnioohhiphpplaaDoor.M Go.Proofs.YtnioohhiphpplaaDoor.Wk Go.Lib
namespace Wk
def hp {α : Type} (f : α → α) (l : List α) (j : Nat) : List α := (l.take j).map f ++ l.drop j
section
variable {α : Type} {f : α → α} {l : List α} {i j : Nat}
theorem hp_length (f : α → α) (l : List α) (j : Nat) : (hp f l j).length = l.length := by
 unfold hp; rw [List.length_append, List.length_map, List.length_take, List.length_drop]; omega
theorem hp_zero (f : α → α) (l : List α) : hp f l 0 = l := by simp [hp]
theorem hp_all (f : α → α) (l : List α) : hp f l l.length = l.map f := by simp [hp]
theorem hp_get (f : α → α) (l : List α) (j i : Nat) : (hp f l j)[i]? = if i < j then l[i]?.map f else l[i]? := by
 unfold hp
 by_cases h : i < j
 ·rw [if_pos h]
  by_cases hl : i < l.length
  ·rw [List.getElem?_append_left (by rw [List.length_map, List.length_take]; omega), List.getElem?_map, List.getElem?_take_of_lt h]
  ·rw [List.getElem?_append_right (by rw [List.length_map, List.length_take]; omega), List.getElem?_drop, List.getElem?_eq_none (by rw [List.length_map, List.length_take]; omega), List.getElem?_eq_none (by omega)]
   rfl
 ·rw [if_neg h]
  by_cases hl : j ≤ l.length
  ·rw [List.getElem?_append_right (by rw [List.length_map, List.length_take]; omega), List.getElem?_drop]
   congr 1
   rw [List.length_map, List.length_take]; omega
  ·rw [List.getElem?_eq_none (by rw [List.length_append, List.length_map, List.length_take, List.length_drop]; omega), List.getElem?_eq_none (by omega)]
theorem hp_at (f : α → α) (l : List α) (j : Nat) : (hp f l j)[j]? = l[j]? := by rw [hp_get, if_neg (Nat.lt_irrefl j)]
theorem hp_set {x : α} (hx : l[j]? = some x) : (hp f l j).set j (f x) = hp f l (j + 1) := by
 refine List.ext_getElem? fun i => ?_
 have hj := (List.getElem?_eq_some_iff.1 hx).1
 rw [List.getElem?_set, hp_length, hp_get, hp_get]
 by_cases h : j = i
 ·subst h
  rw [if_pos rfl, if_pos hj, if_pos (by omega), hx]
  rfl
 ·rw [if_neg h]
  by_cases h2 : i < j
  ·rw [if_pos h2, if_pos (by omega)]
  ·rw [if_neg h2, if_neg (by omega)]
theorem hp_same {x : α} (hx : l[j]? = some x) : l.set j x = l := by
 refine List.ext_getElem? fun i => ?_
 rw [List.getElem?_set]
 by_cases h : j = i
 ·subst h
  rw [if_pos rfl, if_pos (List.getElem?_eq_some_iff.1 hx).1, hx]
 ·rw [if_neg h]
end
def hf8 (x : Int) : Int := IntKind.i8.wrap (Int.tdiv x 2)
def hf64 (x : Int) : Int := wrap64 (Int.tdiv x 2)
theorem hf8_small (a : List Int) : Small (a.map hf8) := fun x hx => by
 obtain ⟨y, _, rfl⟩ := List.mem_map.1 hx
 unfold hf8
 generalize Int.tdiv y 2 = z
 unfold IntKind.wrap
 simp [IntKind.signed, IntKind.bits]
 omega
theorem hf64_rng (x : List Int) : ∀ i, rng (nth (x.map hf64) i) := fun i => by
 unfold nth
 rw [List.getD_eq_getElem?_getD, List.getElem?_map]
 cases x[i]? with
 | none => unfold rng; simp
 | some y =>
  show rng (wrap64 _)
  generalize Int.tdiv y 2 = z
  unfold rng wrap64
  omega
theorem pad_set {l : List Int} {j : Nat} (h : j < l.length) (v : Int) : (pad l).set j v = pad (l.set j v) := by
 unfold pad; rw [List.set_append_left _ _ h]
structure Fm {α : Type} (kd : Kd α) (ei : Nat) (rs : List Tr) (W : World) (cs : List (List α)) : Prop where
 len : rs.length = cs.length
 row : ∀ (i : Nat) (f : Tr) (c : List α), rs[i]? = some f → cs[i]? = some c → Row kd ei W (sl f) c
 apt : Apt rs
section
variable {α : Type} {kd : Kd α} {ei eo : Nat} {W W1 : World} {rs rs2 fs : List Tr} {cs cs2 xss : List (List α)} {f : Tr} {c c' : List α} {i : Nat} {v : Value} {row : Option Nat}
theorem Apt.append (h : Apt rs) (h2 : Apt rs2) (ha : ∀ f ∈ rs, ∀ g ∈ rs2, ∀ k, (sl f).ownBlock = some k → (sl g).ownBlock ≠ some k) : Apt (rs ++ rs2) := fun i j f g hij hi hj k hk hg => by
 by_cases h1 : i < rs.length
 ·rw [List.getElem?_append_left h1] at hi
  by_cases h3 : j < rs.length
  ·rw [List.getElem?_append_left h3] at hj
   exact h i j f g hij hi hj k hk hg
  ·rw [List.getElem?_append_right (by omega)] at hj
   exact ha f (List.mem_of_getElem? hi) g (List.mem_of_getElem? hj) k hk hg
 ·rw [List.getElem?_append_right (by omega)] at hi
  by_cases h3 : j < rs.length
  ·rw [List.getElem?_append_left h3] at hj
   exact ha g (List.mem_of_getElem? hj) f (List.mem_of_getElem? hi) k hg hk
  ·rw [List.getElem?_append_right (by omega)] at hj
   exact h2 _ _ f g (by omega) hi hj k hk hg
theorem Fm.at (h : Fm kd ei rs W cs) (hf : f ∈ rs) : ∃ c, Row kd ei W (sl f) c := by
 obtain ⟨i, hi⟩ := List.getElem?_of_mem hf
 have hl : i < cs.length := by rw [← h.len]; exact (List.getElem?_eq_some_iff.1 hi).1
 exact ⟨_, h.row i f _ hi (List.getElem?_eq_getElem hl)⟩
theorem Fm.lt (h : Fm kd ei rs W cs) (hf : f ∈ rs) : ∀ k, (sl f).ownBlock = some k → k < W.heap.size := fun k hk => by
 obtain ⟨c, hc⟩ := h.at hf
 exact Kd.R_lt hc k hk
theorem Fm.below (h : Fm kd ei rs W cs) (hb : Below W.heap.size W W1) : Fm kd ei rs W1 cs := ⟨h.len, fun i f c h1 h2 => (h.row i f c h1 h2).below hb, h.apt⟩
theorem Fm.other (hE : kd.E = []) (h : Fm kd ei rs W cs) (hg : W.grownBy W1 row) (ht : ∀ k, row = some k → ∃ cells t, W.heap[k]? = some (.cells cells t (0, 0)) ∧ t ≠ ei) : Fm kd ei rs W1 cs :=
 ⟨h.len, fun i f c h1 h2 => (h.row i f c h1 h2).grown hE hg fun k hk he => by
  obtain ⟨cells, hc⟩ := (h.row i f c h1 h2).typed k hk
  obtain ⟨cells2, t, hc2, ht⟩ := ht k he
  exact ht (typed_ne hc2 hc), h.apt⟩
theorem Fm.app (h : Fm kd ei rs W cs) (h2 : Fm kd ei rs2 W cs2) (ha : ∀ f ∈ rs, ∀ g ∈ rs2, ∀ k, (sl f).ownBlock = some k → (sl g).ownBlock ≠ some k) : Fm kd ei (rs ++ rs2) W (cs ++ cs2) := by
 refine ⟨by rw [List.length_append, List.length_append, h.len, h2.len], fun i f c h3 h4 => ?_, h.apt.append h2.apt ha⟩
 by_cases h1 : i < rs.length
 ·rw [List.getElem?_append_left h1] at h3
  rw [List.getElem?_append_left (by rw [← h.len]; exact h1)] at h4
  exact h.row i f c h3 h4
 ·rw [List.getElem?_append_right (by omega)] at h3
  rw [List.getElem?_append_right (by rw [← h.len]; omega), ← h.len] at h4
  exact h2.row _ f c h3 h4
theorem Fm.one (h : Row kd ei W (sl f) c) : Fm kd ei [f] W [c] := by
 refine ⟨rfl, fun i g d h1 h2 => ?_, fun i j f g hij hi hj => ?_⟩
 ·match i with
  | 0 => cases h1; cases h2; exact h
  | i + 1 => cases h1
 ·match i, j with
  | 0, 0 => exact absurd rfl hij
  | i + 1, _ => cases hi
  | 0, j + 1 => cases hj
theorem Fm.new (h : Fm kd ei rs W cs) (hb : Below W.heap.size W W1) (hr : Kd.R kd ei W1 W.heap.size (fun _ => True) (sl f) c) : Fm kd ei (rs ++ [f]) W1 (cs ++ [c]) :=
 (h.below hb).app (Fm.one (Row.of hr)) fun g hg u hu k hk he => by
  rw [List.mem_singleton.1 hu] at he
  have h1 := h.lt hg k hk
  have h2 := Kd.R_base hr k he
  omega
theorem Fm.put (hE : kd.E = []) (h : Fm kd ei rs W cs) (hf : rs[i]? = some f) (hg : W.grownBy W1 (sl f).ownBlock) (hr : Row kd ei W1 (sl f) c') : Fm kd ei rs W1 (cs.set i c') :=
 ⟨by rw [List.length_set]; exact h.len, fun q u d h1 h2 => by
  rw [List.getElem?_set] at h2
  by_cases hq : i = q
  ·subst hq
   rw [if_pos rfl] at h2
   rw [hf] at h1
   cases h1
   split at h2
   ·cases h2
    exact hr
   ·cases h2
  ·rw [if_neg hq] at h2
   exact (h.row q u d h1 h2).grown hE hg fun k hk he => h.apt i q f u hq hf h1 k he hk, h.apt⟩
theorem Fm.col (h : Fm kd ei (rs ++ fs ++ rs2) W (cs ++ xss ++ cs2)) (hl : rs.length = cs.length) (hl2 : fs.length = xss.length) (ho : Row slKd eo W v fs) : Col kd eo ei W v fs xss :=
 ⟨ho, hl2, fun i f c h1 h2 => h.row (rs.length + i) f c (by
  rw [List.append_assoc, List.getElem?_append_right (by omega), Nat.add_sub_cancel_left, List.getElem?_append_left (List.getElem?_eq_some_iff.1 h1).1]; exact h1) (by
  rw [List.append_assoc, List.getElem?_append_right (by omega), hl, Nat.add_sub_cancel_left, List.getElem?_append_left (List.getElem?_eq_some_iff.1 h2).1]; exact h2)⟩
theorem Fm.colR (h : Fm kd ei (rs ++ fs) W (cs ++ xss)) (hl : rs.length = cs.length) (ho : Row slKd eo W v fs) : Col kd eo ei W v fs xss :=
 Fm.col (rs2 := []) (cs2 := []) (by rw [List.append_nil, List.append_nil]; exact h) hl (by have := h.len; rw [List.length_append, List.length_append] at this; omega) ho
theorem Col.V (hE : kd.E = []) (h : Col kd eo ei W v fs xss) (base : Nat) : Kd.V (Kd.slice ei kd) eo W base (fun _ => True) v xss := by
 obtain ⟨A, c, e1, h1, h2⟩ := h.reads
 refine ⟨A, c, e1, h1, fun W' hW => ?_⟩
 have h' : Col kd eo ei W' v fs xss := ⟨h.out.keep rfl (fun k hk => hW k trivial (Kd.R_lt h.out k hk)), h.len, fun i f xs h3 h4 => (h.row i f xs h3 h4).keep hE (fun k hk => hW k trivial (Kd.R_lt (h.row i f xs h3 h4) k hk))⟩
 obtain ⟨A', c', e1', h1', h2'⟩ := h'.reads
 rw [e1] at e1'
 injection e1' with ea _ _
 rw [ea]
 exact h2'
def unsl (u : Value) : Tr := match u with | .slice A n c => (A, n, c) | _ => (none, 0, 0)
theorem S_fm {M : Nat} (h : Kd.S (Kd.slice ei kd) eo W M (fun _ => True) v xss) : ∃ fs, Row slKd eo W v fs ∧ Fm kd ei fs W xss ∧ ∀ f ∈ fs, ∀ k, (sl f).ownBlock = some k → M ≤ k := by
 obtain ⟨t, h0, inner, ho, hl, hr⟩ := h
 have hl2 : inner.length = xss.length := by rw [hl, List.length_zipIdx]; exact Nat.mul_one _
 have key : ∀ (i : Nat) (xs : List α), xss[i]? = some xs → ∃ u, inner[i]? = some u ∧ sl (unsl u) = u ∧ Kd.R kd ei W M (fun k => (True ∧ some k ≠ v.ownBlock) ∧ t k = i) u xs := fun i xs hx => by
  obtain ⟨u, hu, hR⟩ := hr i (xs, i) (Kd.zip_at hx)
  have hi : i < inner.length := by rw [hl2]; exact (List.getElem?_eq_some_iff.1 hx).1
  refine ⟨u, ?_, ?_, hR⟩
  ·replace hu : (inner.drop (i * 1)).take 1 = [u] := hu
   rw [Nat.mul_one] at hu
   have h1 := congrArg (fun l => l[0]?) hu
   simpa using h1
  ·obtain ⟨A, c, rfl⟩ := Kd.R_slice hR
   rfl
 refine ⟨inner.map unsl, ⟨fun _ _ => trivial, inner, ?_, by rw [List.length_map]; exact (Nat.mul_one _).symm, fun i f hf => ?_⟩, ⟨by rw [List.length_map]; exact hl2, fun i f c h1 h2 => ?_, fun i j f g hij hi hj k hk hg => ?_⟩, fun f hf k hk => ?_⟩
 ·rw [List.length_map, hl2]
  rw [List.length_zipIdx] at ho
  exact own_weaken ho (Nat.zero_le _)
 ·rw [List.getElem?_map] at hf
  obtain ⟨u, hu, rfl⟩ := Option.map_eq_some_iff.1 hf
  have hi := (List.getElem?_eq_some_iff.1 hu).1
  obtain ⟨u2, hu2, hs, _⟩ := key i (xss[i]'(by rw [← hl2]; exact (List.getElem?_eq_some_iff.1 hu).1)) (List.getElem?_eq_getElem (by rw [← hl2]; exact hi))
  rw [hu] at hu2
  cases hu2
  show _ = [sl (unsl u)]
  rw [hs]
  show (inner.drop (i * 1)).take 1 = [u]
  rw [Nat.mul_one]
  refine List.ext_getElem? fun q => ?_
  match q with
  | 0 => simpa using hu
  | q + 1 => rw [List.getElem?_take]; simp
 ·rw [List.getElem?_map] at h1
  obtain ⟨u, hu, rfl⟩ := Option.map_eq_some_iff.1 h1
  obtain ⟨u2, hu2, hs, hR⟩ := key i c h2
  rw [hu] at hu2
  cases hu2
  rw [hs]
  exact Row.of (Kd.R_mono hR fun _ _ => trivial)
 ·rw [List.getElem?_map] at hi hj
  obtain ⟨u, hu, rfl⟩ := Option.map_eq_some_iff.1 hi
  obtain ⟨u', hu', rfl⟩ := Option.map_eq_some_iff.1 hj
  obtain ⟨u2, hu2, hs, hR⟩ := key i (xss[i]'(by rw [← hl2]; exact (List.getElem?_eq_some_iff.1 hu).1)) (List.getElem?_eq_getElem (by rw [← hl2]; exact (List.getElem?_eq_some_iff.1 hu).1))
  rw [hu] at hu2
  cases hu2
  obtain ⟨u3, hu3, hs', hR'⟩ := key j (xss[j]'(by rw [← hl2]; exact (List.getElem?_eq_some_iff.1 hu').1)) (List.getElem?_eq_getElem (by rw [← hl2]; exact (List.getElem?_eq_some_iff.1 hu').1))
  rw [hu'] at hu3
  cases hu3
  rw [hs] at hk
  rw [hs'] at hg
  exact hij ((hR.1 k hk).2.symm.trans (hR'.1 k hg).2)
 ·obtain ⟨u, hu, rfl⟩ := List.mem_map.1 hf
  obtain ⟨i, hi⟩ := List.getElem?_of_mem hu
  obtain ⟨u2, hu2, hs, hR⟩ := key i (xss[i]'(by rw [← hl2]; exact (List.getElem?_eq_some_iff.1 hi).1)) (List.getElem?_eq_getElem (by rw [← hl2]; exact (List.getElem?_eq_some_iff.1 hi).1))
  rw [hi] at hu2
  cases hu2
  rw [hs] at hk
  exact Kd.R_base hR k hk
end
def Gf (a b d : List Int) (us : List (List Int)) : List (List Int) := [pad a, pad b, pad d, a, b, d] ++ padV us ++ us
theorem Gf_A (a b d a' : List Int) (us : List (List Int)) : ((Gf a b d us).set 3 a').set 0 (pad a') = Gf a' b d us := rfl
theorem Gf_B (a b d b' : List Int) (us : List (List Int)) : ((Gf a b d us).set 4 b').set 1 (pad b') = Gf a b' d us := rfl
theorem Gf_D (a b d d' : List Int) (us : List (List Int)) : ((Gf a b d us).set 5 d').set 2 (pad d') = Gf a b d' us := rfl
theorem Gf_V (a b d u' : List Int) (us : List (List Int)) (i : Nat) (hi : i < us.length) : ((Gf a b d us).set (us.length + i + 6) u').set (i + 6) (pad u') = Gf a b d (us.set i u') := by
 show pad a :: pad b :: pad d :: a :: b :: d :: ((padV us ++ us).set (us.length + i) u').set i (pad u') = pad a :: pad b :: pad d :: a :: b :: d :: (padV (us.set i u') ++ us.set i u')
 rw [List.set_append_right _ _ (by rw [padV_length]; omega), List.set_append_left _ _ (by rw [padV_length]; exact hi), padV_length, Nat.add_sub_cancel_left]
 unfold padV
 rw [List.map_set]
theorem Gf_tV {a b d u : List Int} {us : List (List Int)} {i : Nat} (h : us[i]? = some u) : (Gf a b d us)[i + 6]? = some (pad u) := by
 show (padV us ++ us)[i]? = _
 rw [List.getElem?_append_left (by rw [padV_length]; exact (List.getElem?_eq_some_iff.1 h).1)]
 unfold padV
 rw [List.getElem?_map, h]
 rfl
theorem Gf_qV {a b d u : List Int} {us : List (List Int)} {i : Nat} (h : us[i]? = some u) : (Gf a b d us)[us.length + i + 6]? = some u := by
 show (padV us ++ us)[us.length + i]? = _
 rw [List.getElem?_append_right (by rw [padV_length]; omega), padV_length, Nat.add_sub_cancel_left]
 exact h
structure Hv (w : World) (Gq Gt : Nat) (qc tc : Array Value) (qT tT qV tV : Value) (t : List S87) (rs rx fq ft : List Tr) (cs xs : List (List Int)) (W : World) : Prop where
 qb : W.heap[Gq]? = some (.cells qc 39 (0, 0))
 tb : W.heap[Gt]? = some (.cells tc 47 (0, 0))
 fm : Fm (Kd.int .i8) 57 rs W cs
 fx : Fm (Kd.int .i64) 2 rx W xs
 hq : Row k87 87 W qT t
 ht : Row k87 87 W tT (padT t)
 oq : Row slKd 33 W qV fq
 ot : Row slKd 33 W tV ft
 lo : ∀ f ∈ rs ++ rx, ∀ k, (sl f).ownBlock = some k → w.heap.size ≤ k
 bel : Below w.heap.size w W
section
variable {w W W1 : World} {Gq Gt i : Nat} {qc tc : Array Value} {qT tT qV tV : Value} {t : List S87} {rs rx fq ft : List Tr} {cs xs : List (List Int)} {f : Tr} {c' : List Int}
theorem Hv.below (h : Hv w Gq Gt qc tc qT tT qV tV t rs rx fq ft cs xs W) (hb : Below W.heap.size W W1) : Hv w Gq Gt qc tc qT tT qV tV t rs rx fq ft cs xs W1 :=
 ⟨blk_below h.qb hb, blk_below h.tb hb, h.fm.below hb, h.fx.below hb, h.hq.below hb, h.ht.below hb, h.oq.below hb, h.ot.below hb, h.lo, below_step h.bel hb⟩
theorem Row.typ {α : Type} {kd : Kd α} {e : Nat} {v : Value} {ys : List α} (hE : kd.E = []) (h : Row kd e W v ys) {r : Value} {e2 : Nat} (ht : ∀ k, r.ownBlock = some k → ∃ cells, W.heap[k]? = some (.cells cells e2 (0, 0))) (hne : e ≠ e2) (hg : W.grownBy W1 r.ownBlock) : Row kd e W1 v ys :=
 h.grown hE hg fun k hk he => by
  obtain ⟨c, hc⟩ := h.typed k hk
  obtain ⟨c', hc'⟩ := ht k he
  exact hne (typed_ne hc hc')
theorem blk_typ {g : Nat} {cs : Array Value} {t : Nat} (h : W.heap[g]? = some (.cells cs t (0, 0))) {r : Value} {e2 : Nat} (ht : ∀ k, r.ownBlock = some k → ∃ cells, W.heap[k]? = some (.cells cells e2 (0, 0))) (hne : t ≠ e2) (hg : W.grownBy W1 r.ownBlock) : W1.heap[g]? = some (.cells cs t (0, 0)) := by
 rw [hg.block g (blk_lt h) (fun he => ?_)]
 ·exact h
 ·obtain ⟨c', hc'⟩ := ht g he.symm
  exact hne (typed_ne h hc')
theorem Hv.put8 (h : Hv w Gq Gt qc tc qT tT qV tV t rs rx fq ft cs xs W) {c : List Int} (hf : rs[i]? = some f) (hc : cs[i]? = some c) (hg : W.grownBy W1 (sl f).ownBlock) (hr : Row (Kd.int .i8) 57 W1 (sl f) c') : Hv w Gq Gt qc tc qT tT qV tV t rs rx fq ft (cs.set i c') xs W1 := by
 have ht := (h.fm.row i f c hf hc).typed
 have hm : f ∈ rs ++ rx := List.mem_append_left _ (List.mem_of_getElem? hf)
 exact ⟨blk_typ h.qb ht (by decide) hg, blk_typ h.tb ht (by decide) hg, h.fm.put rfl hf hg hr, h.fx.other rfl hg (fun k hk => (ht k hk).imp fun c hc => ⟨57, hc, by decide⟩), h.hq.typ rfl ht (by decide) hg, h.ht.typ rfl ht (by decide) hg, h.oq.typ rfl ht (by decide) hg, h.ot.typ rfl ht (by decide) hg, h.lo, h.bel.trans (base_grown hg (h.lo f hm) h.bel.size)⟩
theorem Hv.put64 (h : Hv w Gq Gt qc tc qT tT qV tV t rs rx fq ft cs xs W) {c : List Int} (hf : rx[i]? = some f) (hc : xs[i]? = some c) (hg : W.grownBy W1 (sl f).ownBlock) (hr : Row (Kd.int .i64) 2 W1 (sl f) c') : Hv w Gq Gt qc tc qT tT qV tV t rs rx fq ft cs (xs.set i c') W1 := by
 have ht := (h.fx.row i f c hf hc).typed
 have hm : f ∈ rs ++ rx := List.mem_append_right _ (List.mem_of_getElem? hf)
 exact ⟨blk_typ h.qb ht (by decide) hg, blk_typ h.tb ht (by decide) hg, h.fm.other rfl hg (fun k hk => (ht k hk).imp fun c hc => ⟨2, hc, by decide⟩), h.fx.put rfl hf hg hr, h.hq.typ rfl ht (by decide) hg, h.ht.typ rfl ht (by decide) hg, h.oq.typ rfl ht (by decide) hg, h.ot.typ rfl ht (by decide) hg, h.lo, h.bel.trans (base_grown hg (h.lo f hm) h.bel.size)⟩
theorem Hv.new (h : Hv w Gq Gt qc tc qT tT qV tV t rs rx fq ft cs xs W) {c : List Int} (hb : Below W.heap.size W W1) (hr : Kd.R (Kd.int .i8) 57 W1 W.heap.size (fun _ => True) (sl f) c) : Hv w Gq Gt qc tc qT tT qV tV t (rs ++ [f]) rx fq ft (cs ++ [c]) xs W1 := by
 have h1 := h.below hb
 refine { h1 with fm := h.fm.new hb hr, lo := fun g hg k hk => ?_ }
 rw [List.append_assoc] at hg
 rcases List.mem_append.1 hg with hg | hg
 ·exact h.lo g (List.mem_append_left _ hg) k hk
 rcases List.mem_append.1 hg with hg | hg
 ·rw [List.mem_singleton.1 hg] at hk
  exact Nat.le_trans h.bel.size (Kd.R_base hr k hk)
 ·exact h.lo g (List.mem_append_right _ hg) k hk
theorem Hv.app (h : Hv w Gq Gt qc tc qT tT qV tV t rs rx fq ft cs xs W) {v1 : Value} {fq1 : List Tr} (hg : W.grownBy W1 qV.ownBlock) (hu : ∀ k, qV.ownBlock = some k → w.heap.size ≤ k ∧ tV.ownBlock ≠ some k) (hR : Row slKd 33 W1 v1 fq1) : Hv w Gq Gt qc tc qT tT v1 tV t rs rx fq1 ft cs xs W1 := by
 have ht := h.oq.typed
 exact ⟨blk_typ h.qb ht (by decide) hg, blk_typ h.tb ht (by decide) hg, h.fm.other rfl hg (fun k hk => (ht k hk).imp fun c hc => ⟨33, hc, by decide⟩), h.fx.other rfl hg (fun k hk => (ht k hk).imp fun c hc => ⟨33, hc, by decide⟩), h.hq.typ rfl ht (by decide) hg, h.ht.typ rfl ht (by decide) hg, hR, h.ot.grown rfl hg (fun k hk he => (hu k he).2 hk), h.lo, h.bel.trans (base_grown hg (fun k hk => (hu k hk).1) h.bel.size)⟩
theorem Hv.setq (h : Hv w Gq Gt qc tc qT tT qV tV t rs rx fq ft cs xs W) (hq : w.heap.size ≤ Gq) (i : Nat) {v : Value} {qc1 : Array Value} (he : qc.setIfInBounds i v = qc1) : Hv w Gq Gt qc1 tc qT tT qV tV t rs rx fq ft cs xs (W.setCell ⟨Gq, i, none⟩ v) := by
 have hg := grownBy_set W ⟨Gq, i, none⟩ v
 have ht : ∀ k, (Value.slice (some ⟨Gq, 0, none⟩) 0 0).ownBlock = some k → ∃ cells, W.heap[k]? = some (.cells cells 39 (0, 0)) := fun k hk => by
  have : some Gq = some k := hk
  injection this with this
  subst this
  exact ⟨_, h.qb⟩
 have ht2 : ∀ k, some Gq = some k → ∃ cells, W.heap[k]? = some (.cells cells 39 (0, 0)) := ht
 replace hg : W.grownBy (W.setCell ⟨Gq, i, none⟩ v) (Value.slice (some ⟨Gq, 0, none⟩) 0 0).ownBlock := hg
 exact ⟨blk_put h.qb i v he, blk_typ h.tb ht (by decide) hg, h.fm.other rfl hg (fun k hk => (ht k hk).imp fun c hc => ⟨39, hc, by decide⟩), h.fx.other rfl hg (fun k hk => (ht k hk).imp fun c hc => ⟨39, hc, by decide⟩), h.hq.typ rfl ht (by decide) hg, h.ht.typ rfl ht (by decide) hg, h.oq.typ rfl ht (by decide) hg, h.ot.typ rfl ht (by decide) hg, h.lo, below_set h.bel hq⟩
theorem Row.cellAt {k : IntKind} {e n c j : Nat} {A : Option Addr} {l : List Int} (h : Row (Kd.int k) e W (.slice A n c) l) (hj : j < l.length) : ∃ g, A = some ⟨g, 0, none⟩ ∧ n = l.length ∧ W.cell? ⟨g, j, none⟩ = some (.int k (nth l j)) ∧ W.frozen? ⟨g, j, none⟩ = false ∧
  ∀ v, Row (Kd.int k) e (W.setCell ⟨g, j, none⟩ (.int k v)) (.slice A n c) (l.set j v) ∧ W.grownBy (W.setCell ⟨g, j, none⟩ (.int k v)) (Value.slice A n c).ownBlock := by
 obtain ⟨g, cap, hv, _, _, _⟩ := Kd.R_form h (by omega)
 injection hv with ha hn hc
 subst ha hn hc
 obtain ⟨e0, e1⟩ := Kd.R_celln 0 h (j : Int) (by omega) (by omega)
 rw [Int.toNat_natCast] at e0 e1
 refine ⟨g, rfl, rfl, ?_, e1, fun v => ?_⟩
 ·rw [e0]; unfold rdOf nth; rw [Int.toNat_natCast]
 ·have hp := Kd.R_putg h (j : Int) v
  rw [Int.toNat_natCast] at hp
  exact hp
end
theorem in_fm {W : World} {base : Nat} {IA IB ID : Option Addr} {nA nB nD iA iB iD : Nat} {x1 t1 v1 : Value} {a b d x : List Int} {t : List S87} {vs : List (List Int)} (h : InR W base (.slice IA nA iA) (.slice IB nB iB) (.slice ID nD iD) x1 t1 v1 a b d x t vs) :
  ∃ ft, Row slKd 33 W v1 ft ∧ Fm (Kd.int .i8) 57 ([(IA, nA, iA), (IB, nB, iB), (ID, nD, iD)] ++ ft) W ([pad a, pad b, pad d] ++ padV vs) ∧ ∀ f ∈ [(IA, nA, iA), (IB, nB, iB), (ID, nD, iD)] ++ ft, ∀ k, (sl f).ownBlock = some k → base ≤ k := by
 have F3 : Fm (Kd.int .i8) 57 [(IA, nA, iA), (IB, nB, iB), (ID, nD, iD)] W [pad a, pad b, pad d] := by
  refine (((Fm.one (f := (IA, nA, iA)) (Row.of h.hA)).app (Fm.one (f := (IB, nB, iB)) (Row.of h.hB)) ?_).app (Fm.one (f := (ID, nD, iD)) (Row.of h.hD)) ?_)
  ·intro f hf g hg k hk he
   rw [List.mem_singleton.1 hf] at hk
   rw [List.mem_singleton.1 hg] at he
   exact h.apB k hk he.symm
  ·intro f hf g hg k hk he
   rw [List.mem_singleton.1 hg] at he
   rcases List.mem_cons.1 hf with rfl | hf
   ·exact h.apD.1 k hk he.symm
   ·rw [List.mem_singleton.1 hf] at hk
    exact h.apD.2 k hk he.symm
 have B3 : ∀ f ∈ [(IA, nA, iA), (IB, nB, iB), (ID, nD, iD)], ∀ k, (sl f).ownBlock = some k → base ≤ k ∧ ((Value.slice IA nA iA).ownBlock = some k ∨ (Value.slice IB nB iB).ownBlock = some k ∨ (Value.slice ID nD iD).ownBlock = some k) := fun f hf k hk => by
  rcases List.mem_cons.1 hf with rfl | hf
  ·exact ⟨Kd.R_base h.hA k hk, .inl hk⟩
  rcases List.mem_cons.1 hf with rfl | hf
  ·exact ⟨Kd.R_base h.hB k hk, .inr (.inl hk)⟩
  rw [List.mem_singleton.1 hf] at hk
  exact ⟨Kd.R_base h.hD k hk, .inr (.inr hk)⟩
 obtain ⟨M, hM, hS⟩ := h.sep
 have key : ∃ ft, Row slKd 33 W v1 ft ∧ Fm (Kd.int .i8) 57 ft W (padV vs) ∧ ∀ f ∈ ft, ∀ k, (sl f).ownBlock = some k → base ≤ k ∧ M ≤ k := by
  rcases Nat.le_total M base with hl | hl
  ·obtain ⟨ft, h1, h2, h3⟩ := S_fm h.hV
   exact ⟨ft, h1, h2, fun f hf k hk => ⟨h3 f hf k hk, Nat.le_trans hl (h3 f hf k hk)⟩⟩
  ·obtain ⟨ft, h1, h2, h3⟩ := S_fm hS
   exact ⟨ft, h1, h2, fun f hf k hk => ⟨Nat.le_trans hl (h3 f hf k hk), h3 f hf k hk⟩⟩
 obtain ⟨ft, h1, h2, h3⟩ := key
 refine ⟨ft, h1, F3.app h2 (fun f hf g hg k hk he => ?_), fun f hf k hk => ?_⟩
 ·have h4 := hM k (B3 f hf k hk).2
  have h5 := (h3 g hg k he).2
  omega
 ·rcases List.mem_append.1 hf with hf | hf
  ·exact (B3 f hf k hk).1
  ·exact (h3 f hf k hk).1
theorem Fm.mid {α : Type} {kd : Kd α} {ei : Nat} {W W1 : World} {r3 ft q3 : List Tr} {c3 cv d3 : List (List α)} (h : Fm kd ei (r3 ++ ft) W (c3 ++ cv)) (hl : r3.length = c3.length) (hb : Below W.heap.size W W1) (hq : Fm kd ei q3 W1 d3) (hlo : ∀ f ∈ q3, ∀ k, (sl f).ownBlock = some k → W.heap.size ≤ k) : Fm kd ei ((r3 ++ q3) ++ ft) W1 ((c3 ++ d3) ++ cv) := by
 have h1 := h.below hb
 have hfc : ft.length = cv.length := by have := h.len; rw [List.length_append, List.length_append] at this; omega
 have A : Fm kd ei r3 W1 c3 := ⟨hl, fun i f c h2 h3 => h1.row i f c (by rw [List.getElem?_append_left (List.getElem?_eq_some_iff.1 h2).1]; exact h2) (by rw [List.getElem?_append_left (List.getElem?_eq_some_iff.1 h3).1]; exact h3), fun i j f g hij hi hj => h.apt i j f g hij (by rw [List.getElem?_append_left (List.getElem?_eq_some_iff.1 hi).1]; exact hi) (by rw [List.getElem?_append_left (List.getElem?_eq_some_iff.1 hj).1]; exact hj)⟩
 have C : Fm kd ei ft W1 cv := ⟨hfc, fun i f c h2 h3 => h1.row (r3.length + i) f c (by rw [List.getElem?_append_right (by omega), Nat.add_sub_cancel_left]; exact h2) (by rw [hl, List.getElem?_append_right (by omega), Nat.add_sub_cancel_left]; exact h3), fun i j f g hij hi hj => h.apt (r3.length + i) (r3.length + j) f g (by omega) (by rw [List.getElem?_append_right (by omega), Nat.add_sub_cancel_left]; exact hi) (by rw [List.getElem?_append_right (by omega), Nat.add_sub_cancel_left]; exact hj)⟩
 have old : ∀ f ∈ r3 ++ ft, ∀ k, (sl f).ownBlock = some k → k < W.heap.size := fun f hf => h.lt hf
 refine (A.app hq fun f hf g hg k hk he => ?_).app C fun f hf g hg k hk he => ?_
 ·have h2 := old f (List.mem_append_left _ hf) k hk
  have h3 := hlo g hg k he
  omega
 ·rcases List.mem_append.1 hf with hf | hf
  ·obtain ⟨i, hi⟩ := List.getElem?_of_mem hf
   obtain ⟨j, hj⟩ := List.getElem?_of_mem hg
   exact h.apt i (r3.length + j) f g (by have := (List.getElem?_eq_some_iff.1 hi).1; omega) (by rw [List.getElem?_append_left (List.getElem?_eq_some_iff.1 hi).1]; exact hi) (by rw [List.getElem?_append_right (by omega), Nat.add_sub_cancel_left]; exact hj) k hk he
  ·have h2 := old g (List.mem_append_right _ hg) k he
   have h3 := hlo f hf k hk
   omega
theorem Row.kept {α : Type} {kd : Kd α} {e g : Nat} {W W1 : World} {v : Value} {ys : List α} (hE : kd.E = []) (h : Row kd e W v ys) {cs : Array Value} {t : Nat} (hb : W.heap[g]? = some (.cells cs t (0, 0))) (hne : e ≠ t) (hk : KeepBut W W1 g none) : Row kd e W1 v ys :=
 h.keep hE fun k hk2 => hk.2 k (Kd.R_lt h k hk2) (fun he => by
  subst he
  obtain ⟨c, hc⟩ := h.typed _ hk2
  exact hne (typed_ne hc hb)) (by simp)
theorem Hv.keepq {w W W1 : World} {Gq Gt : Nat} {qc tc qc1 : Array Value} {qT tT qV tV : Value} {t : List S87} {rs rx fq ft : List Tr} {cs xs : List (List Int)} (h : Hv w Gq Gt qc tc qT tT qV tV t rs rx fq ft cs xs W) (hk : KeepBut W W1 Gq none) (hb : W1.heap[Gq]? = some (.cells qc1 39 (0, 0))) (hbel : Below w.heap.size w W1) : Hv w Gq Gt qc1 tc qT tT qV tV t rs rx fq ft cs xs W1 :=
 ⟨hb, hk.blk h.tb (fun he => by subst he; exact absurd (typed_ne h.tb h.qb) (by decide)) (by simp), ⟨h.fm.len, fun i f c h1 h2 => (h.fm.row i f c h1 h2).kept rfl h.qb (by decide) hk, h.fm.apt⟩, ⟨h.fx.len, fun i f c h1 h2 => (h.fx.row i f c h1 h2).kept rfl h.qb (by decide) hk, h.fx.apt⟩, h.hq.kept rfl h.qb (by decide) hk, h.ht.kept rfl h.qb (by decide) hk, h.oq.kept rfl h.qb (by decide) hk, h.ot.kept rfl h.qb (by decide) hk, h.lo, hbel⟩
theorem hv_begin {w W0 W : World} {base Gq Gt : Nat} {qc tc : Array Value} {IA IB ID IX AD AA AB AX : Option Addr} {nA nB nD nX iA iB iD iX mD mA mB mX jD jA jB jX : Nat} {t1 v1 tq : Value} {a b d x : List Int} {t : List S87} {vs : List (List Int)} (h : InR W0 base (.slice IA nA iA) (.slice IB nB iB) (.slice ID nD iD) (.slice IX nX iX) t1 v1 a b d x t vs)
  (hwb : w.heap.size ≤ base) (hw0 : Below w.heap.size w W0) (hb : Below W0.heap.size W0 W) (hD : Kd.R (Kd.int .i8) 57 W W0.heap.size (fun _ => True) (.slice AD mD jD) d) (hA : Kd.R (Kd.int .i8) 57 W W0.heap.size (fun _ => True) (.slice AA mA jA) a) (hB : Kd.R (Kd.int .i8) 57 W W0.heap.size (fun _ => True) (.slice AB mB jB) b)
  (hX : Kd.R (Kd.int .i64) 2 W W0.heap.size (fun _ => True) (.slice AX mX jX) x) (hT : Kd.R k87 87 W W0.heap.size (fun _ => True) tq t) (p1 : Go.Proofs.YtnioohhiphpplaaDoor.Wk.Apart (.slice AD mD jD) (.slice AA mA jA)) (p2 : Go.Proofs.YtnioohhiphpplaaDoor.Wk.Apart (.slice AD mD jD) (.slice AB mB jB) ∧ Go.Proofs.YtnioohhiphpplaaDoor.Wk.Apart (.slice AA mA jA) (.slice AB mB jB))
  (hq : W.heap[Gq]? = some (.cells qc 39 (0, 0))) (ht : W0.heap[Gt]? = some (.cells tc 47 (0, 0))) :
  ∃ ft, Row slKd 33 W v1 ft ∧ ft.length = vs.length ∧ Hv w Gq Gt qc tc tq t1 (.slice none 0 0) v1 t ([(IA, nA, iA), (IB, nB, iB), (ID, nD, iD), (AA, mA, jA), (AB, mB, jB), (AD, mD, jD)] ++ ft) [(IX, nX, iX), (AX, mX, jX)] [] ft ([pad a, pad b, pad d, a, b, d] ++ padV vs) [pad x, x] W := by
 obtain ⟨ft, h1, h2, h3⟩ := in_fm h
 have q3 : Fm (Kd.int .i8) 57 [(AA, mA, jA), (AB, mB, jB), (AD, mD, jD)] W [a, b, d] := by
  refine (((Fm.one (f := (AA, mA, jA)) (Row.of hA)).app (Fm.one (f := (AB, mB, jB)) (Row.of hB)) ?_).app (Fm.one (f := (AD, mD, jD)) (Row.of hD)) ?_)
  ·intro f hf g hg k hk he
   rw [List.mem_singleton.1 hf] at hk
   rw [List.mem_singleton.1 hg] at he
   exact p2.2 k hk he.symm
  ·intro f hf g hg k hk he
   rw [List.mem_singleton.1 hg] at he
   rcases List.mem_cons.1 hf with rfl | hf
   ·exact p1 k he hk.symm
   ·rw [List.mem_singleton.1 hf] at hk
    exact p2.1 k he hk.symm
 have l3 : ∀ f ∈ [(AA, mA, jA), (AB, mB, jB), (AD, mD, jD)], ∀ k, (sl f).ownBlock = some k → W0.heap.size ≤ k := fun f hf k hk => by
  rcases List.mem_cons.1 hf with rfl | hf
  ·exact Kd.R_base hA k hk
  rcases List.mem_cons.1 hf with rfl | hf
  ·exact Kd.R_base hB k hk
  rw [List.mem_singleton.1 hf] at hk
  exact Kd.R_base hD k hk
 have fm := Fm.mid h2 rfl hb q3 l3
 have fx : Fm (Kd.int .i64) 2 [(IX, nX, iX), (AX, mX, jX)] W [pad x, x] := (Fm.one (f := (IX, nX, iX)) (Row.of (Kd.R_below h.hX hb))).app (Fm.one (f := (AX, mX, jX)) (Row.of hX)) fun f hf g hg k hk he => by
  rw [List.mem_singleton.1 hf] at hk
  rw [List.mem_singleton.1 hg] at he
  have h4 := Kd.R_lt h.hX k hk
  have h5 := Kd.R_base hX k he
  omega
 have hs := hw0.size
 refine ⟨ft, h1.below hb, ?_, ⟨hq, blk_below ht hb, fm, fx, Row.of hT, Row.of (Kd.R_below h.hT hb), Kd.R_nil _ _ _ _ _, h1.below hb, fun f hf k hk => ?_, below_step hw0 hb⟩⟩
 ·have := h2.len
  simp [padV_length] at this
  exact this
 ·rcases List.mem_append.1 hf with hf | hf
  ·rcases List.mem_append.1 hf with hf | hf
   ·have hf : f ∈ [(IA, nA, iA), (IB, nB, iB), (ID, nD, iD)] ++ [(AA, mA, jA), (AB, mB, jB), (AD, mD, jD)] := hf
    rcases List.mem_append.1 hf with hf | hf
    ·have := h3 f (List.mem_append_left _ hf) k hk
     omega
    ·have := l3 f hf k hk
     omega
   ·have := h3 f (List.mem_append_right _ hf) k hk
    omega
  ·rcases List.mem_cons.1 hf with rfl | hf
   ·have := Kd.R_base h.hX k hk
    omega
   ·rw [List.mem_singleton.1 hf] at hk
    have := Kd.R_base hX k hk
    omega
end Wk
end Go.Proofs.YtnioohhiphpplaaDoor.Dp
