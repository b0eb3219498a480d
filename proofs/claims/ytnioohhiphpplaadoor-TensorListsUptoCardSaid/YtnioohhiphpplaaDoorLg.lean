/- The walk of Book.answers. -/
import Derived.Test.YtnioohhiphpplaaDoorLf
set_option linter.unusedVariables false
set_option linter.unusedSimpArgs false
namespace Go.Proofs.YtnioohhiphpplaaDoor.Dp
open Go.RowKit Go.Proofs.YtnioohhiphpplaaDoor.Pplays Go.Proofs.YtnioohhiphpplaaDoorW.PrintWords Go.Proofs.YtnioohhiphpplaaDoorW.PrintLast Go.Proofs.YtnioohhiphpplaaDoorW.PrintMore Go.Proofs.YtnioohhiphpplaaDoor.M Go.Proofs.YtnioohhiphpplaaDoor.Wk Go.Lib
namespace Wk
def AnsR {α : Type} (kd : Kd α) (e f : Nat) (args : Array Value) (w : World) (xs : List α) : Prop :=
 Calls Tryd.prog f args w fun e2 w' => ∃ (A : Option Addr) (c : Nat) (err : Int), e2 = .returned (.tuple #[.slice A xs.length c, .int .i64 err]) ∧ Kd.R kd e w' w.heap.size (fun _ => True) (.slice A xs.length c) xs ∧ Below w.heap.size w w'
section
variable {α : Type} {kd : Kd α} {f e : Nat} {args : Array Value} {w : World} {xs : List α} {err : Int}
theorem AnsR.of_R (h : Calls Tryd.prog f args w fun e2 w' => ∃ v0 : Value, e2 = .returned (.tuple #[v0, .int .i64 err]) ∧ Kd.R kd e w' w.heap.size (fun _ => True) v0 xs ∧ Below w.heap.size w w') : AnsR kd e f args w xs :=
 h.mono fun _ _ ⟨v0, h1, h2, h3⟩ => by
  obtain ⟨A, c, rfl⟩ := Kd.R_slice h2
  exact ⟨A, c, err, h1, h2, h3⟩
theorem AnsR.of_nil (h : Calls Tryd.prog f args w fun e2 w' => e2 = .returned (.tuple #[.slice none 0 0, .int .i64 err]) ∧ Below w.heap.size w w') : AnsR kd e f args w ([] : List α) :=
 h.mono fun _ w' ⟨h1, h3⟩ => ⟨none, 0, err, h1, Kd.R_nil _ _ _ _ _, h3⟩
end
section
variable {A0 A1 : Option Addr} {c0 c1 : Nat} {w : World}
theorem mv_own0 {rows cols : Int} {D v : List Int} (hr0 : Kd.C (Kd.int .i8) w A0 D.length D) (hc0 : D.length ≤ c0) (hr1 : Kd.C (Kd.int .i8) w A1 v.length v) (hc1 : v.length ≤ c1) (hD : Small D) (hV : Small v) (hn : D.length ≤ 16777216) :
  AnsR (Kd.int .i64) 2 22 #[.agg #[.int .i64 rows, .int .i64 cols, .slice A0 D.length c0], .slice A1 v.length c1] w (mvV rows cols D v).1 := by
 unfold mvV
 by_cases h : checkV rows cols D = 0 ∧ (v.length : Int) = cols
 ·rw [if_pos h]
  obtain ⟨m0, m1, m2⟩ := check_zero h.1
  have : rows.toNat ≤ D.length := by rw [← m2]; exact Nat.le_mul_of_pos_right _ (by omega)
  exact AnsR.of_R (mv_calls w hr0 hc0 hr1 hc1 h.1 h.2 hD hV (by omega) (by omega))
 ·rw [if_neg h]
  exact AnsR.of_nil (mv_bad w hr0 hc0 (by omega) h)
theorem mv_own {rows cols : Int} {D v : List Int} (hr0 : Kd.C (Kd.int .i8) w A0 D.length D) (hc0 : D.length ≤ c0) (hr1 : Kd.C (Kd.int .i8) w A1 v.length v) (hc1 : v.length ≤ c1) (hD : Small D) (hV : Small v) (hn : D.length ≤ 16777216) :
  ∃ xs : List Int, xs.length ≤ 16777216 ∧ AnsR (Kd.int .i64) 2 22 #[.agg #[.int .i64 rows, .int .i64 cols, .slice A0 D.length c0], .slice A1 v.length c1] w xs := ⟨_, mv_length hn, mv_own0 hr0 hc0 hr1 hc1 hD hV hn⟩
theorem narrow_own {x : List Int} {s : Int} (hr0 : Kd.C (Kd.int .i64) w A0 x.length x) (hc0 : x.length ≤ c0) (hx : ∀ i, rng (nth x i)) (hn : x.length ≤ 16777216) : ∃ xs : List Int, xs.length ≤ 16777216 ∧ AnsR (Kd.int .i8) 57 29 #[.slice A0 x.length c0, .int .i64 s] w xs :=
 ⟨_, narrow_length hn, AnsR.of_R (tensor_Narrow.calls (x.length + 71) A0 c0 x s _ _ w hr0 hc0 (by rw [narrow_is hx (by omega) (by omega)]))⟩
theorem norm_own {x g : List Int} (hr0 : Kd.C (Kd.int .i64) w A0 x.length x) (hc0 : x.length ≤ c0) (hr1 : Kd.C (Kd.int .i8) w A1 g.length g) (hc1 : g.length ≤ c1) (hg : Small g) (hn : x.length ≤ 16777216) :
  ∃ xs : List Int, xs.length ≤ 16777216 ∧ AnsR (Kd.int .i8) 57 31 #[.slice A0 x.length c0, .slice A1 g.length c1] w xs := by
 refine ⟨(normV x g).1, norm_length hn, ?_⟩
 unfold normV
 by_cases h : x.length = 0 ∨ x.length ≠ g.length
 ·rw [if_pos h]
  exact AnsR.of_nil ((norm_bad w h).mono fun _ _ ⟨h1, d, h2⟩ => ⟨h1, by rw [h2]; exact (Drawn0.mk ⟨d, rfl⟩ : Drawn0 w _).below⟩)
 ·rw [if_neg h]
  obtain ⟨h1, h2⟩ := not_or.1 h
  have h2 : g.length = x.length := (Decidable.not_not.1 h2).symm
  rw [h2] at hc1 hr1 ⊢
  exact AnsR.of_R (norm_calls w rfl h2 hr0 hc0 (by rw [h2]; exact hr1) hc1 (by omega) (by omega) hg)
theorem soft_own {x : List Int} (ht : Terms w) (hr0 : Kd.C (Kd.int .i64) w A0 x.length x) (hc0 : x.length ≤ c0) (hn : x.length ≤ 16777216) : ∃ xs : List Int, xs.length ≤ 16777216 ∧ AnsR (Kd.int .i64) 2 6 #[.slice A0 x.length c0] w xs :=
 ⟨_, by rw [tb_length]; exact hn, AnsR.of_R (softmax_calls w ht hr0 hc0 (by omega))⟩
theorem rot_own {v : List Int} {ts : List S87} (hr0 : Kd.C (Kd.int .i8) w A0 v.length v) (hc0 : v.length ≤ c0) (hr1 : Kd.C k87 w A1 ts.length ts) (hc1 : ts.length ≤ c1) (hv : Small v) (hn : v.length ≤ 16777216) (hm : ts.length ≤ 16777216) :
  ∃ xs : List Int, xs.length ≤ 16777216 ∧ AnsR (Kd.int .i8) 57 35 #[.slice A0 v.length c0, .slice A1 ts.length c1] w xs :=
 ⟨_, rot_length hn, AnsR.of_R (tensor_Rotate.calls (ts.length + 3) A0 c0 v A1 c1 ts _ _ w hr0 hc0 hr1 hc1 (by rw [rotate_is hv (by omega) (by omega) (by omega)]))⟩
theorem blend_own {x : List Int} {vs : List (List Int)} (h0 : Kd.C (Kd.int .i64) w A0 x.length x) (h1 : x.length ≤ c0) (h2 : Kd.C (Kd.slice 57 (Kd.int .i8)) w A1 vs.length vs) (h3 : vs.length ≤ c1) (hn : x.length ≤ 16777216) (hm : vs.length ≤ 16777216) (hr : ∀ v ∈ vs, v.length ≤ 16777216) (hs : ∀ v ∈ vs, Small v) :
  ∃ xs : List Int, xs.length ≤ 16777216 ∧ AnsR (Kd.int .i8) 57 32 #[.slice A0 x.length c0, .slice A1 vs.length c1] w xs := by
 have hL : (vrow vs 0).length ≤ 16777216 := by
  cases vs with
  | nil => exact Nat.zero_le _
  | cons v l => exact hr v (List.mem_cons_self ..)
 by_cases hb : BlBad x vs
 ·refine ⟨[], Nat.zero_le _, AnsR.of_nil (err := 30) ((blend_calls w rfl rfl h0 h1 h2 h3 (by omega) (by omega) hs).mono ?_)⟩
  rintro e w' ⟨v0, err, rfl, ⟨_, rfl, rfl⟩ | ⟨h, _⟩, h4⟩
  ·exact ⟨rfl, h4⟩
  ·exact absurd hb h
 ·refine ⟨tb (blW x vs (sW x x.length)) (vrow vs 0).length, by rw [tb_length]; exact hL, AnsR.of_R (err := 0) ((blend_calls w rfl rfl h0 h1 h2 h3 (by omega) (by omega) hs).mono ?_)⟩
  rintro e w' ⟨v0, err, rfl, ⟨h, _, _⟩ | ⟨_, rfl, h⟩, h4⟩
  ·exact absurd h hb
  ·exact ⟨_, rfl, h, h4⟩
end
structure BkX (w : World) (GB base top Bd : Nat) (N M Wv X T U : Value) (last : Int) (fN fM fW fX fT fU : List Tr) (xN xW : List (List Int)) (xT : List (List S87)) : Prop where
 blk : w.heap[GB]? = some (.cells (bkc N M Wv X T U last) 45 (0, 0))
 pN : Pr (Kd.int .i8) 33 57 w N M fN fM xN xN
 pW : Pr (Kd.int .i64) 22 2 w Wv X fW fX xW xW
 pT : Pr k87 37 87 w T U fT fU xT xT
 l0 : 0 ≤ last
 l1 : last ≤ Bd
 nN : xN.length ≤ Bd
 nW : xW.length ≤ Bd
 nT : xT.length ≤ Bd
 rN : ∀ y ∈ xN, y.length ≤ 16777280
 rW : ∀ y ∈ xW, y.length ≤ 16777280
 rT : ∀ y ∈ xT, y.length ≤ 16777280
 own : ∀ k, (k = GB ∨ N.ownBlock = some k ∨ M.ownBlock = some k ∨ Wv.ownBlock = some k ∨ X.ownBlock = some k ∨ T.ownBlock = some k ∨ U.ownBlock = some k) → base ≤ k ∧ k < top
def Bk (w : World) (GB base top Bd : Nat) : Prop := ∃ N M Wv X T U last fN fM fW fX fT fU xN xW xT, BkX w GB base top Bd N M Wv X T U last fN fM fW fX fT fU xN xW xT
section
variable {w w0 w1 : World} {GB base top Bd : Nat} {A : Option Addr} {c : Nat}
theorem Bk.below (h : Bk w GB base top Bd) (hb : Below w.heap.size w w1) : Bk w1 GB base top Bd := by
 obtain ⟨N, M, Wv, X, T, U, last, fN, fM, fW, fX, fT, fU, xN, xW, xT, h⟩ := h
 exact ⟨N, M, Wv, X, T, U, last, fN, fM, fW, fX, fT, fU, xN, xW, xT, { h with blk := blk_below h.blk hb, pN := h.pN.below hb, pW := h.pW.below hb, pT := h.pT.below hb }⟩
theorem Col.fr {α : Type} {kd : Kd α} {eo ei : Nat} {N : Value} {fs : List Tr} {xss : List (List α)} {S : Nat → Prop} (hE : kd.E = []) (h : Col kd eo ei w N fs xss) (hf : Fr w w1 S) (hN : ∀ k, N.ownBlock = some k → ¬ S k) (hr : ∀ f ∈ fs, ∀ k, (sl f).ownBlock = some k → ¬ S k) : Col kd eo ei w1 N fs xss :=
 ⟨h.out.keep rfl fun k hk => hf.kept.2 k (Kd.R_lt h.out k hk) (hN k hk), h.len, fun i f xs h1 h2 => (h.row i f xs h1 h2).keep hE fun k hk => hf.kept.2 k (Kd.R_lt (h.row i f xs h1 h2) k hk) (hr f (List.mem_of_getElem? h1) k hk)⟩
theorem Pr.fr {α : Type} {kd : Kd α} {eo ei : Nat} {N M : Value} {fN fM : List Tr} {xN xM : List (List α)} {S : Nat → Prop} (hE : kd.E = []) (h : Pr kd eo ei w N M fN fM xN xM) (hf : Fr w w1 S) (ht : ∀ k cells, S k → w.heap[k]? ≠ some (.cells cells eo (0, 0)) ∧ w.heap[k]? ≠ some (.cells cells ei (0, 0))) : Pr kd eo ei w1 N M fN fM xN xM := by
 refine ⟨h.cN.fr hE hf (fun k hk hs => ?_) (fun f hm k hk hs => ?_), h.cM.fr hE hf (fun k hk hs => ?_) (fun f hm k hk hs => ?_), h.ap⟩
 ·obtain ⟨cl, hc⟩ := h.cN.out.typed k hk
  exact (ht k cl hs).1 hc
 ·obtain ⟨xs, hx⟩ := h.cN.at hm
  obtain ⟨cl, hc⟩ := hx.typed k hk
  exact (ht k cl hs).2 hc
 ·obtain ⟨cl, hc⟩ := h.cM.out.typed k hk
  exact (ht k cl hs).1 hc
 ·obtain ⟨xs, hx⟩ := h.cM.at hm
  obtain ⟨cl, hc⟩ := hx.typed k hk
  exact (ht k cl hs).2 hc
def BkS (base top : Nat) (k : Nat) : Prop := base ≤ k ∧ k < top
theorem typed_no {k e : Nat} {cells : Array Value} (h : w.heap[k]? = some (.cells cells e (0, 0))) {t : Nat} (ht : e ≠ t) (c2 : Array Value) : w.heap[k]? ≠ some (.cells c2 t (0, 0)) := fun h2 => ht (typed_ne h h2)
theorem row_le {α : Type} {kd : Kd α} {e b : Nat} {v : Value} {xs : List α} (h : Kd.R kd e w b (fun _ => True) v xs) (hb : w0.heap.size ≤ b) {us : List Value} (hu : ∀ u ∈ us, ∀ k, u.ownBlock = some k → k < w0.heap.size) (hs : w0.heap.size ≤ w.heap.size) : Ap w v us := fun u hm k hk => by
 have h1 := hu u hm k hk
 refine ⟨by omega, fun he => ?_⟩
 have h2 := Kd.R_base h k he
 omega
theorem BkX.next {w' : World} {N M Wv X T U N' M' Wv' X' T' U' : Value} {last last' : Int} {fN fM fW fX fT fU fN' fM' fW' fX' fT' fU' : List Tr} {xN xW xN' xW' : List (List Int)} {xT xT' : List (List S87)} (h : BkX w0 GB base top Bd N M Wv X T U last fN fM fW fX fT fU xN xW xT) (hbt : base ≤ w0.heap.size)
  (hb : w'.heap[GB]? = some (.cells (bkc N' M' Wv' X' T' U' last') 45 (0, 0))) (pN : Pr (Kd.int .i8) 33 57 w' N' M' fN' fM' xN' xN') (pW : Pr (Kd.int .i64) 22 2 w' Wv' X' fW' fX' xW' xW') (pT : Pr k87 37 87 w' T' U' fT' fU' xT' xT')
  (hN : ∀ k, N'.ownBlock = some k → N.ownBlock = some k ∨ w0.heap.size ≤ k) (hM : ∀ k, M'.ownBlock = some k → M.ownBlock = some k ∨ w0.heap.size ≤ k) (hW : ∀ k, Wv'.ownBlock = some k → Wv.ownBlock = some k ∨ w0.heap.size ≤ k) (hX : ∀ k, X'.ownBlock = some k → X.ownBlock = some k ∨ w0.heap.size ≤ k) (hT : ∀ k, T'.ownBlock = some k → T.ownBlock = some k ∨ w0.heap.size ≤ k) (hU : ∀ k, U'.ownBlock = some k → U.ownBlock = some k ∨ w0.heap.size ≤ k) :
  ∀ k, (k = GB ∨ N'.ownBlock = some k ∨ M'.ownBlock = some k ∨ Wv'.ownBlock = some k ∨ X'.ownBlock = some k ∨ T'.ownBlock = some k ∨ U'.ownBlock = some k) → base ≤ k ∧ k < w'.heap.size := by
 have st : ∀ {k : Nat} {p : Prop}, (p ∨ w0.heap.size ≤ k) → (p → base ≤ k ∧ k < top) → base ≤ k := fun h1 h2 => h1.elim (fun hp => (h2 hp).1) (fun hk => Nat.le_trans hbt hk)
 rintro k (hk | hk | hk | hk | hk | hk | hk)
 ·exact ⟨(h.own k (.inl hk)).1, hk ▸ blk_lt hb⟩
 ·exact ⟨st (hN k hk) fun hk => h.own k (.inr (.inl hk)), Kd.R_lt pN.cN.out k hk⟩
 ·exact ⟨st (hM k hk) fun hk => h.own k (.inr (.inr (.inl hk))), Kd.R_lt pN.cM.out k hk⟩
 ·exact ⟨st (hW k hk) fun hk => h.own k (.inr (.inr (.inr (.inl hk)))), Kd.R_lt pW.cN.out k hk⟩
 ·exact ⟨st (hX k hk) fun hk => h.own k (.inr (.inr (.inr (.inr (.inl hk))))), Kd.R_lt pW.cM.out k hk⟩
 ·exact ⟨st (hT k hk) fun hk => h.own k (.inr (.inr (.inr (.inr (.inr (.inl hk)))))), Kd.R_lt pT.cN.out k hk⟩
 ·exact ⟨st (hU k hk) fun hk => h.own k (.inr (.inr (.inr (.inr (.inr (.inr hk)))))), Kd.R_lt pT.cM.out k hk⟩
theorem len2 {α : Type} {xs : List (List α)} {y1 y2 : List α} {b c : Nat} (h : ∀ y ∈ xs, y.length ≤ c) (h1 : y1.length ≤ c) (h2 : y2.length ≤ c) (hl : xs.length ≤ b) : (xs ++ [y1] ++ [y2]).length ≤ b + 128 ∧ ∀ y ∈ xs ++ [y1] ++ [y2], y.length ≤ c := by
 refine ⟨by simp only [List.length_append, List.length_singleton]; omega, fun y hy => ?_⟩
 rcases List.mem_append.1 hy with hy | hy
 ·rcases List.mem_append.1 hy with hy | hy
  ·exact h y hy
  ·rw [List.mem_singleton.1 hy]; exact h1
 ·rw [List.mem_singleton.1 hy]; exact h2
theorem WiS_no {α : Type} {kd : Kd α} {eo ei : Nat} {N M l : Value} {fN fM : List Tr} {xN : List (List α)} {xs : List α} {cs : Array Value} (hK : w.heap[GB]? = some (.cells cs 45 (0, 0))) (hP : Pr kd eo ei w N M fN fM xN xN) (hr : Row kd ei w l xs) (k : Nat) (h : WiS GB N M l k) (cells : Array Value) (t : Nat) (t1 : 45 ≠ t) (t2 : eo ≠ t) (t3 : ei ≠ t) : w.heap[k]? ≠ some (.cells cells t (0, 0)) := by
 rcases h with rfl | hk | hk | hk
 ·exact typed_no hK t1 cells
 ·obtain ⟨cl, hc⟩ := hP.cN.out.typed k hk
  exact typed_no hc t2 cells
 ·obtain ⟨cl, hc⟩ := hP.cM.out.typed k hk
  exact typed_no hc t2 cells
 ·obtain ⟨cl, hc⟩ := hr.typed k hk
  exact typed_no hc t3 cells
theorem bwide {xs : List Int} (hB : Bk w0 GB base top Bd) (hb : Below w0.heap.size w0 w) (hr : Kd.R (Kd.int .i64) 2 w w0.heap.size (fun _ => True) (.slice A xs.length c) xs) (hn : xs.length ≤ 16777216) (hd : Bd ≤ 1099511627776) (hbt : base ≤ w0.heap.size) :
  Calls Tryd.prog 28 #[.pointer (some ⟨GB, 0, none⟩), .slice A xs.length c] w fun e w' => e = .returned (.tuple #[]) ∧ Bk w' GB base w'.heap.size (Bd + 128) ∧ Fr w0 w' (BkS base top) := by
 obtain ⟨N, M, Wv, X, T, U, last, fN, fM, fW, fX, fT, fU, xN, xW, xT, h⟩ := hB
 have hP := h.pW.below hb
 have hK := blk_below h.blk hb
 refine (wide_calls w hK hP (Row.of hr) (row_le hr (Nat.le_refl _) h.pW.size hb.size) h.l0 (by have := h.l1; omega) hn (by have := h.nW; omega)).mono ?_
 rintro e w' ⟨rfl, Wv', X', fW', fX', y1, y2, h1, h2, ⟨h3, h4⟩, h5, h6, h7⟩
 have hS := WiS_no hK hP (Row.of hr)
 have hN := (h.pN.below hb).fr rfl h7 (fun k cl hs => ⟨hS k hs cl 33 (by decide) (by decide) (by decide), hS k hs cl 57 (by decide) (by decide) (by decide)⟩)
 have hT := (h.pT.below hb).fr rfl h7 (fun k cl hs => ⟨hS k hs cl 37 (by decide) (by decide) (by decide), hS k hs cl 87 (by decide) (by decide) (by decide)⟩)
 have hL := len2 h.rW (y1 := y1) (y2 := y2) (by omega) (by omega) h.nW
 have hz := hb.size
 refine ⟨rfl, ⟨N, M, Wv', X', T, U, last + 1, fN, fM, fW', fX', fT, fU, xN, _, xT, h1, hN, h2, hT, by have := h.l0; omega, by have := h.l1; omega, by have := h.nN; omega, hL.1, by have := h.nT; omega, h.rN, hL.2, h.rT, h.next hbt h1 hN h2 hT (fun _ => .inl) (fun _ => .inl) (fun k hk => (h5 k hk).imp id (fun h => by omega)) (fun k hk => (h6 k hk).imp id (fun h => by omega)) (fun _ => .inl) (fun _ => .inl)⟩, (Fr.of_below hb _).then_ h7 (fun k hk => ?_)⟩
 rcases hk with hk | hk | hk | hk
 ·exact .inl (h.own k (.inl hk))
 ·exact .inl (h.own k (.inr (.inr (.inr (.inl hk)))))
 ·exact .inl (h.own k (.inr (.inr (.inr (.inr (.inl hk))))))
 ·exact .inr (Kd.R_base hr k hk)
theorem bnarrow {xs : List Int} (hB : Bk w0 GB base top Bd) (hb : Below w0.heap.size w0 w) (hr : Kd.R (Kd.int .i8) 57 w w0.heap.size (fun _ => True) (.slice A xs.length c) xs) (hn : xs.length ≤ 16777216) (hd : Bd ≤ 1099511627776) (hbt : base ≤ w0.heap.size) :
  Calls Tryd.prog 30 #[.pointer (some ⟨GB, 0, none⟩), .slice (some ⟨w.heap.size, 0, none⟩) 1 1] (w.alloc (.cells #[.slice A xs.length c] 33)) fun e w' => e = .returned (.tuple #[]) ∧ Bk w' GB base w'.heap.size (Bd + 128) ∧ Fr w0 w' (BkS base top) := by
 obtain ⟨N, M, Wv, X, T, U, last, fN, fM, fW, fX, fT, fU, xN, xW, xT, h⟩ := hB
 have hba := below_alloc (Below.refl w.heap.size w) (.cells #[.slice A xs.length c] 33)
 have hb2 := below_step hb hba
 have hP := h.pN.below hb2
 have hK := blk_below h.blk hb2
 have hra := Kd.R_below hr hba
 have hz := hb.size
 have hz2 := hb2.size
 have hlt : ∀ {k : Nat}, k < w0.heap.size → w.heap.size ≠ k := fun h1 h2 => by omega
 refine (narrow_calls (gs := w.heap.size) _ hK hP (blk_new w _) (fun he => hlt (Kd.R_lt h.pN.cN.out _ he) rfl) (fun he => hlt (Kd.R_lt h.pN.cM.out _ he) rfl) (Row.of hra) (row_le hra (Nat.le_refl _) h.pN.size hb2.size) hn (by have := h.nN; omega)).mono ?_
 rintro e w' ⟨rfl, N', M', fN', fM', y1, y2, h1, h2, ⟨h3, h4⟩, h5, h6, h7⟩
 have hS := WiS_no hK hP (Row.of hra)
 have hW := (h.pW.below hb2).fr rfl h7 (fun k cl hs => ⟨hS k hs cl 22 (by decide) (by decide) (by decide), hS k hs cl 2 (by decide) (by decide) (by decide)⟩)
 have hT := (h.pT.below hb2).fr rfl h7 (fun k cl hs => ⟨hS k hs cl 37 (by decide) (by decide) (by decide), hS k hs cl 87 (by decide) (by decide) (by decide)⟩)
 have hL := len2 h.rN (y1 := y1) (y2 := y2) (by omega) (by omega) h.nN
 refine ⟨rfl, ⟨N', M', Wv, X, T, U, last, fN', fM', fW, fX, fT, fU, _, xW, xT, h1, h2, hW, hT, h.l0, by have := h.l1; omega, hL.1, by have := h.nW; omega, by have := h.nT; omega, hL.2, h.rW, h.rT, h.next hbt h1 h2 hW hT (fun k hk => (h5 k hk).imp id (fun h => by omega)) (fun k hk => (h6 k hk).imp id (fun h => by omega)) (fun _ => .inl) (fun _ => .inl) (fun _ => .inl) (fun _ => .inl)⟩, (Fr.of_below hb2 _).then_ h7 (fun k hk => ?_)⟩
 rcases hk with hk | hk | hk | hk
 ·exact .inl (h.own k (.inl hk))
 ·exact .inl (h.own k (.inr (.inl hk)))
 ·exact .inl (h.own k (.inr (.inr (.inl hk))))
 ·exact .inr (Kd.R_base hra k hk)
theorem bturns {n m : Nat} {fr : Nat → Tr} {o : Nat → List S87} (hB : Bk w0 GB base top Bd) (hb : Below w0.heap.size w0 w) (hls : Kd.R slKd 37 w w0.heap.size (fun _ => True) (.slice A n c) (tabS fr n)) (hrow : ∀ k, k < n → Kd.R k87 87 w w0.heap.size (fun _ => True) (sl (fr k)) (o k) ∧ (o k).length = m) (hpair : ∀ j k, j < n → k < n → j ≠ k → ∀ b, (sl (fr j)).ownBlock = some b → (sl (fr k)).ownBlock ≠ some b)
  (hn : n ≤ 64) (hm : m ≤ 16777216) (hd : Bd ≤ 1099511627776) (hbt : base ≤ w0.heap.size) :
  Calls Tryd.prog 34 #[.pointer (some ⟨GB, 0, none⟩), .slice A n c] w fun e w' => e = .returned (.tuple #[]) ∧ Bk w' GB base w'.heap.size (Bd + 128) ∧ Fr w0 w' (BkS base top) := by
 obtain ⟨N, M, Wv, X, T, U, last, fN, fM, fW, fX, fT, fU, xN, xW, xT, h⟩ := hB
 have hP := h.pT.below hb
 have hK := blk_below h.blk hb
 have hz := hb.size
 have hlT : ∀ k, (Value.slice A n c).ownBlock = some k → T.ownBlock ≠ some k ∧ U.ownBlock ≠ some k := fun k hk => ⟨fun he => by have := Kd.R_base hls k hk; have := Kd.R_lt h.pT.cN.out k he; omega, fun he => by have := Kd.R_base hls k hk; have := Kd.R_lt h.pT.cM.out k he; omega⟩
 refine (bturns_calls w hK hP (Row.of hls) hlT (fun k hk => ⟨Row.of (hrow k hk).1, (hrow k hk).2, row_le (hrow k hk).1 (Nat.le_refl _) h.pT.size hb.size⟩) hpair hn hm h.l0 (by have := h.l1; omega) (by have := h.nT; omega)).mono ?_
 rintro e w' ⟨rfl, T', U', fT', fU', Y, L, h1, hL0, hL1, h2, h3, h4, h5, h6, h7⟩
 have hS : ∀ k, TuS GB T U n fr k → ∀ (cells : Array Value) (t : Nat), 45 ≠ t → 37 ≠ t → 87 ≠ t → w.heap[k]? ≠ some (.cells cells t (0, 0)) := by
  rintro k (rfl | hk | hk | ⟨j, hj, hk⟩) cells t t1 t2 t3
  ·exact typed_no hK t1 cells
  ·obtain ⟨cl, hc⟩ := hP.cN.out.typed k hk
   exact typed_no hc t2 cells
  ·obtain ⟨cl, hc⟩ := hP.cM.out.typed k hk
   exact typed_no hc t2 cells
  ·obtain ⟨cl, hc⟩ := (Row.of (hrow j hj).1).typed k hk
   exact typed_no hc t3 cells
 have hN := (h.pN.below hb).fr rfl h7 (fun k cl hs => ⟨hS k hs cl 33 (by decide) (by decide) (by decide), hS k hs cl 57 (by decide) (by decide) (by decide)⟩)
 have hW := (h.pW.below hb).fr rfl h7 (fun k cl hs => ⟨hS k hs cl 22 (by decide) (by decide) (by decide), hS k hs cl 2 (by decide) (by decide) (by decide)⟩)
 refine ⟨rfl, ⟨N, M, Wv, X, T', U', L, fN, fM, fW, fX, fT', fU', xN, xW, _, h1, hN, hW, h2, by have := h.l0; omega, by have := h.l1; omega, by have := h.nN; omega, by have := h.nW; omega, by rw [List.length_append]; have := h.nT; omega, h.rN, h.rW, fun y hy => (List.mem_append.1 hy).elim (h.rT y) (h4 y), h.next hbt h1 hN hW h2 (fun _ => .inl) (fun _ => .inl) (fun _ => .inl) (fun _ => .inl) (fun k hk => (h5 k hk).imp id (fun h => by omega)) (fun k hk => (h6 k hk).imp id (fun h => by omega))⟩, (Fr.of_below hb _).then_ h7 (fun k hk => ?_)⟩
 rcases hk with hk | hk | hk | ⟨j, hj, hk⟩
 ·exact .inl (h.own k (.inl hk))
 ·exact .inl (h.own k (.inr (.inr (.inr (.inr (.inr (.inl hk)))))))
 ·exact .inl (h.own k (.inr (.inr (.inr (.inr (.inr (.inr hk)))))))
 ·exact .inr (Kd.R_base (hrow j hj).1 k hk)
theorem Bk.up (h : Bk w GB base top Bd) (hbt : base ≤ w.heap.size) : Bk w GB base w.heap.size (Bd + 128) := by
 obtain ⟨N, M, Wv, X, T, U, last, fN, fM, fW, fX, fT, fU, xN, xW, xT, h⟩ := h
 exact ⟨N, M, Wv, X, T, U, last, fN, fM, fW, fX, fT, fU, xN, xW, xT, { h with l1 := by have := h.l1; omega, nN := by have := h.nN; omega, nW := by have := h.nW; omega, nT := by have := h.nT; omega, own := h.next hbt h.blk h.pN h.pW h.pT (fun _ => .inl) (fun _ => .inl) (fun _ => .inl) (fun _ => .inl) (fun _ => .inl) (fun _ => .inl) }⟩
end
theorem tu_own {A0 : Option Addr} {c0 : Nat} {w : World} {us : List S87} {n : Int} (h0 : Kd.C k87 w A0 us.length us) (h1 : us.length ≤ c0) (hn : us.length ≤ 16777216) :
  Calls Tryd.prog 33 #[.slice A0 us.length c0, .int .i64 n] w fun e w' => ∃ (A : Option Addr) (m c : Nat) (err : Int) (fr : Nat → Tr) (o : Nat → List S87) (ml : Nat), e = .returned (.tuple #[.slice A m c, .int .i64 err]) ∧ Kd.R slKd 37 w' w.heap.size (fun _ => True) (.slice A m c) (tabS fr m) ∧
   (∀ k, k < m → Kd.R k87 87 w' w.heap.size (fun _ => True) (sl (fr k)) (o k) ∧ (o k).length = ml) ∧ (∀ j k, j < m → k < m → j ≠ k → ∀ b, (sl (fr j)).ownBlock = some b → (sl (fr k)).ownBlock ≠ some b) ∧ m ≤ 64 ∧ ml ≤ 16777216 ∧ Below w.heap.size w w' := by
 have nil : ∀ w' : World, Kd.R slKd 37 w' w.heap.size (fun _ => True) (.slice none 0 0) (tabS (fun _ => (none, 0, 0)) 0) := fun w' => Kd.R_nil _ _ _ _ _
 by_cases ha : n < 0 ∨ 64 < n
 ·refine (turns_arg w ha).mono ?_
  rintro e w' ⟨rfl, hb⟩
  exact ⟨none, 0, 0, 1, fun _ => (none, 0, 0), fun _ => [], 0, rfl, nil w', fun k hk => absurd hk (Nat.not_lt_zero _), fun j k hj => absurd hj (Nat.not_lt_zero _), by omega, by omega, hb⟩
 ·obtain ⟨m, rfl⟩ : ∃ m : Nat, n = m := ⟨n.toNat, by omega⟩
  refine (turns_own (U := Ut us) w (by rw [Ut_tab]; exact h0) h1 hn (by omega)).mono ?_
  rintro e w' ⟨A, k, c, err, rfl, ⟨_, rfl, rfl, rfl, _⟩ | ⟨_, rfl, _, _, _, f, hR, hG⟩, hb⟩
  ·exact ⟨none, 0, 0, err, fun _ => (none, 0, 0), fun _ => [], 0, rfl, nil w', fun k hk => absurd hk (Nat.not_lt_zero _), fun j k hj => absurd hj (Nat.not_lt_zero _), by omega, by omega, hb⟩
  ·have hs : ∀ q, q < k → sl (f q) = .slice (f q).1 us.length (f q).2.2 := fun q hq => by rw [← (hG q hq).1]; rfl
   refine ⟨A, k, c, err, f, fun q => tabT (fun i => turnN (Ut us i) q) us.length, us.length, rfl, hR, fun q hq => ⟨by rw [hs q hq]; exact (hG q hq).2.1, tabT_length _ _⟩, fun j q hj hq hne b h1 h2 => ?_, by omega, hn, hb⟩
   rw [hs j hj] at h1
   rw [hs q hq] at h2
   rcases Nat.lt_or_gt_of_ne hne with h | h
   ·exact (hG q hq).2.2 j h b h1 h2.symm
   ·exact (hG j hj).2.2 q h b h2 h1.symm
set_option maxHeartbeats 8000000 in
set_option maxRecDepth 100000 in
theorem answers_calls {GB base top Bd : Nat} {A B D X T V : Option Addr} {cA cB cD cX cT cV : Nat} {a b d x : List Int} {t : List S87} {vs : List (List Int)} (kd rw cl n : Int) (w : World) (hB : Bk w GB base top Bd) (ht : Terms w) (hO : OpAt w A B D X T V cA cB cD cX cT cV a b d x t vs) (hF : OpFit a b d x vs) (hd : Bd ≤ 1099511627776) (hbt : base ≤ w.heap.size) :
  Calls Tryd.prog 13 #[.pointer (some ⟨GB, 0, none⟩), .agg (opBox A B D X T V cA cB cD cX cT cV a b d x t vs kd rw cl n)] w fun e w' => e = .returned (.tuple #[]) ∧ Bk w' GB base w'.heap.size (Bd + 128) ∧ Fr w w' (BkS base top) := by
 have hu39 := Tryd.underlying39
 have hu35 := Tryd.underlying35
 have HF := Lib.hid hF
 unfold opBox
 go_enter Tryd.func13, Tryd.ntmps13
 go_upto_region 1 with (fail)
 obtain ⟨G, hG⟩ : ∃ y, y = w.heap.size := ⟨_, rfl⟩
 obtain ⟨W, hW⟩ : ∃ y, y = w.alloc (.cells #[.int .i64 kd, .int .i64 rw, .int .i64 cl, .slice D d.length cD, .slice A a.length cA, .slice B b.length cB, .slice X x.length cX, .slice V vs.length cV, .slice T t.length cT, .int .i64 n] 39) := ⟨_, rfl⟩
 have hb1 : W.heap[G]? = some (.cells #[.int .i64 kd, .int .i64 rw, .int .i64 cl, .slice D d.length cD, .slice A a.length cA, .slice B b.length cB, .slice X x.length cX, .slice V vs.length cV, .slice T t.length cT, .int .i64 n] 39 (0, 0)) := by rw [hW, hG]; exact blk_new _ _
 have hbl : Below w.heap.size w W := by rw [hW]; exact below_alloc (Below.refl _ _) _
 rw [← hW, ← hG]
 clear hW hG
 have k0 : W.cell? ⟨G, 0, none⟩ = some (.int .i64 kd) := (blk_cell hb1 0).trans rfl
 have k1 : W.cell? ⟨G, 1, none⟩ = some (.int .i64 rw) := (blk_cell hb1 1).trans rfl
 have k2 : W.cell? ⟨G, 2, none⟩ = some (.int .i64 cl) := (blk_cell hb1 2).trans rfl
 have k3 : W.cell? ⟨G, 3, none⟩ = some (.slice D d.length cD) := (blk_cell hb1 3).trans rfl
 have k4 : W.cell? ⟨G, 4, none⟩ = some (.slice A a.length cA) := (blk_cell hb1 4).trans rfl
 have k6 : W.cell? ⟨G, 6, none⟩ = some (.slice X x.length cX) := (blk_cell hb1 6).trans rfl
 have k7 : W.cell? ⟨G, 7, none⟩ = some (.slice V vs.length cV) := (blk_cell hb1 7).trans rfl
 have k8 : W.cell? ⟨G, 8, none⟩ = some (.slice T t.length cT) := (blk_cell hb1 8).trans rfl
 have k9 : W.cell? ⟨G, 9, none⟩ = some (.int .i64 n) := (blk_cell hb1 9).trans rfl
 have HO := Lib.hid (hO.below hbl)
 have HK := Lib.hid (hB.below hbl)
 have HT := Lib.hid (ht.below hbl)
 have hbt2 : base ≤ W.heap.size := Nat.le_trans hbt hbl.size
 have HFR : Hid (∀ w', Fr W w' (BkS base top) → Fr w w' (BkS base top)) := Lib.hid (fun w' h => (Fr.of_below hbl _).then_ h (fun k hk => .inl hk))
 clear hB ht hO hF hb1 hbl
 go_upto_block 0 with (fail)
 by_cases h1 : kd = 2
 ·subst h1
  obtain ⟨xs, hxl, hc⟩ := mv_own (rows := rw) (cols := cl) HO.out.hD HO.out.lD HO.out.hA HO.out.lA HF.out.sD HF.out.sA HO.out.nD
  have HC := Lib.hid hc
  clear hc
  go_wp2_with fail
  refine Calls.mono HC.out ?_
  rintro e wb ⟨A1, c1, err, rfl, hr, hb⟩
  clear k0 k1 k2 k3 k4 k6 k7 k8 k9 HC
  have HR := Lib.hid hr
  have HB := Lib.hid hb
  clear hr hb
  go_wp2_with fail
  refine (bwide HK.out HB.out HR.out hxl hd hbt2).mono ?_
  rintro e wc ⟨rfl, h1, h2⟩
  go_wp2
  go_end0
  exact ⟨rfl, h1, HFR.out _ h2⟩
 by_cases h2 : kd = 3
 ·subst h2
  obtain ⟨xs, hxl, hc⟩ := narrow_own (s := n) HO.out.hX HO.out.lX HF.out.rX HO.out.nX
  have HC := Lib.hid hc
  clear hc
  go_wp2_with fail
  refine Calls.mono HC.out ?_
  rintro e wb ⟨A1, c1, err, rfl, hr, hb⟩
  clear k0 k1 k2 k3 k4 k6 k7 k8 k9 HC
  have HR := Lib.hid hr
  have HB := Lib.hid hb
  clear hr hb
  go_wp2_with fail
  refine (bnarrow HK.out HB.out HR.out hxl hd hbt2).mono ?_
  rintro e wc ⟨rfl, h1, h2⟩
  go_wp2
  go_end0
  exact ⟨rfl, h1, HFR.out _ h2⟩
 by_cases h3 : kd = 4
 ·subst h3
  obtain ⟨xs, hxl, hc⟩ := norm_own HO.out.hX HO.out.lX HO.out.hA HO.out.lA HF.out.sA HO.out.nX
  have HC := Lib.hid hc
  clear hc
  go_wp2_with fail
  refine Calls.mono HC.out ?_
  rintro e wb ⟨A1, c1, err, rfl, hr, hb⟩
  clear k0 k1 k2 k3 k4 k6 k7 k8 k9 HC
  have HR := Lib.hid hr
  have HB := Lib.hid hb
  clear hr hb
  go_wp2_with fail
  refine (bnarrow HK.out HB.out HR.out hxl hd hbt2).mono ?_
  rintro e wc ⟨rfl, h1, h2⟩
  go_wp2
  go_end0
  exact ⟨rfl, h1, HFR.out _ h2⟩
 by_cases h4 : kd = 6
 ·subst h4
  obtain ⟨xs, hxl, hc⟩ := soft_own HT.out HO.out.hX HO.out.lX HO.out.nX
  have HC := Lib.hid hc
  clear hc
  go_wp2_with fail
  refine Calls.mono HC.out ?_
  rintro e wb ⟨A1, c1, err, rfl, hr, hb⟩
  clear k0 k1 k2 k3 k4 k6 k7 k8 k9 HC
  have HR := Lib.hid hr
  have HB := Lib.hid hb
  clear hr hb
  go_wp2_with fail
  refine (bwide HK.out HB.out HR.out hxl hd hbt2).mono ?_
  rintro e wc ⟨rfl, h1, h2⟩
  go_wp2
  go_end0
  exact ⟨rfl, h1, HFR.out _ h2⟩
 by_cases h5 : kd = 7
 ·subst h5
  obtain ⟨xs, hxl, hc⟩ := blend_own HO.out.hX HO.out.lX HO.out.hV HO.out.lV HO.out.nX HO.out.nV HO.out.nr HF.out.sV
  have HC := Lib.hid hc
  clear hc
  go_wp2_with fail
  refine Calls.mono HC.out ?_
  rintro e wb ⟨A1, c1, err, rfl, hr, hb⟩
  clear k0 k1 k2 k3 k4 k6 k7 k8 k9 HC
  have HR := Lib.hid hr
  have HB := Lib.hid hb
  clear hr hb
  go_wp2_with fail
  refine (bnarrow HK.out HB.out HR.out hxl hd hbt2).mono ?_
  rintro e wc ⟨rfl, h1, h2⟩
  go_wp2
  go_end0
  exact ⟨rfl, h1, HFR.out _ h2⟩
 by_cases h6 : kd = 8
 ·subst h6
  have hc := tu_own (n := n) HO.out.hT HO.out.lT HO.out.nT
  have HC := Lib.hid hc
  clear hc
  go_wp2_with fail
  refine Calls.mono HC.out ?_
  rintro e wb ⟨A1, m, c1, err, fr, o, ml, rfl, hr, hrow, hpair, hm, hml, hb⟩
  clear k0 k1 k2 k3 k4 k6 k7 k8 k9 HC
  have HR := Lib.hid hr
  have HB := Lib.hid hb
  have HW := Lib.hid hrow
  have HP := Lib.hid hpair
  clear hr hb hrow hpair
  go_wp2_with fail
  refine (bturns HK.out HB.out HR.out HW.out HP.out hm hml hd hbt2).mono ?_
  rintro e wc ⟨rfl, h1, h2⟩
  go_wp2
  go_end0
  exact ⟨rfl, h1, HFR.out _ h2⟩
 by_cases h7 : kd = 9
 ·subst h7
  obtain ⟨xs, hxl, hc⟩ := rot_own HO.out.hA HO.out.lA HO.out.hT HO.out.lT HF.out.sA HO.out.nA HO.out.nT
  have HC := Lib.hid hc
  clear hc
  go_wp2_with fail
  refine Calls.mono HC.out ?_
  rintro e wb ⟨A1, c1, err, rfl, hr, hb⟩
  clear k0 k1 k2 k3 k4 k6 k7 k8 k9 HC
  have HR := Lib.hid hr
  have HB := Lib.hid hb
  clear hr hb
  go_wp2_with fail
  refine (bnarrow HK.out HB.out HR.out hxl hd hbt2).mono ?_
  rintro e wc ⟨rfl, h1, h2⟩
  go_wp2
  go_end0
  exact ⟨rfl, h1, HFR.out _ h2⟩
 go_wp2
 go_end0
 exact ⟨rfl, HK.out.up hbt2, HFR.out _ (Fr.refl _ _)⟩
end Wk
end Go.Proofs.YtnioohhiphpplaaDoor.Dp
