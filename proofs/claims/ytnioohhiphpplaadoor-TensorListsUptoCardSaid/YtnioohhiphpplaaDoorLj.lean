/- The walk of Kept.keeps. -/
import Derived.Test.YtnioohhiphpplaaDoorLi
import Derived.Test.YtnioohhiphpplaaDoorSq
set_option linter.unusedVariables false
set_option linter.unusedSimpArgs false
namespace Go.Proofs.YtnioohhiphpplaaDoor.Dp
open Go.RowKit Go.Proofs.YtnioohhiphpplaaDoor.Pplays Go.Proofs.YtnioohhiphpplaaDoorW.PrintWords Go.Proofs.YtnioohhiphpplaaDoorW.PrintLast Go.Proofs.YtnioohhiphpplaaDoorW.PrintMore Go.Proofs.YtnioohhiphpplaaDoor.M Go.Proofs.YtnioohhiphpplaaDoor.Wk Go.Lib
namespace Wk
def Apt (fs : List Tr) : Prop := ∀ (i j : Nat) (f f' : Tr), i ≠ j → fs[i]? = some f → fs[j]? = some f' → ∀ k, (sl f).ownBlock = some k → (sl f').ownBlock ≠ some k
theorem Apt.snoc {fs : List Tr} {g : Tr} (h : Apt fs) (hg : ∀ f ∈ fs, ∀ k, (sl f).ownBlock = some k → (sl g).ownBlock ≠ some k) : Apt (fs ++ [g]) := by
 have sp : ∀ {i : Nat} {f : Tr}, (fs ++ [g])[i]? = some f → (i < fs.length ∧ fs[i]? = some f) ∨ (i = fs.length ∧ f = g) := fun {i f} hi => by
  rcases Nat.lt_trichotomy i fs.length with h1 | h1 | h1
  ·rw [List.getElem?_append_left h1] at hi
   exact .inl ⟨h1, hi⟩
  ·subst h1
   rw [List.getElem?_append_right (Nat.le_refl _), Nat.sub_self] at hi
   exact .inr ⟨rfl, (Option.some.inj hi).symm⟩
  ·rw [List.getElem?_eq_none (by rw [List.length_append, List.length_singleton]; omega)] at hi
   cases hi
 intro i j f f' hij hi hj k hk he
 rcases sp hi with ⟨h1, h2⟩ | ⟨h1, rfl⟩ <;> rcases sp hj with ⟨h3, h4⟩ | ⟨h3, rfl⟩
 ·exact h i j f f' hij h2 h4 k hk he
 ·exact hg f (List.mem_of_getElem? h2) k hk he
 ·exact hg f' (List.mem_of_getElem? h4) k he hk
 ·omega
structure Cl {α : Type} (kd : Kd α) (eo ei : Nat) (w : World) (base Bd : Nat) (V : Value) (fs : List Tr) (xss : List (List α)) : Prop where
 col : Col kd eo ei w V fs xss
 apt : Apt fs
 nl : xss.length ≤ Bd
 rl : ∀ y ∈ xss, y.length ≤ 16777216
 oo : ∀ k, V.ownBlock = some k → base ≤ k
 oi : ∀ f ∈ fs, ∀ k, (sl f).ownBlock = some k → base ≤ k
section
variable {α : Type} {kd : Kd α} {eo ei : Nat} {W w1 : World} {base Bd : Nat} {V v1 : Value} {fs : List Tr} {xss : List (List α)} {row : Option Nat} {f : Tr} {xs : List α}
theorem Cl.below (h : Cl kd eo ei W base Bd V fs xss) (hb : Below W.heap.size W w1) : Cl kd eo ei w1 base Bd V fs xss := { h with col := h.col.below hb }
theorem Cl.up {Bd' : Nat} (h : Cl kd eo ei W base Bd V fs xss) (hb : Bd ≤ Bd') : Cl kd eo ei W base Bd' V fs xss := { h with nl := Nat.le_trans h.nl hb }
theorem Cl.other (hE : kd.E = []) (h : Cl kd eo ei W base Bd V fs xss) (hg : W.grownBy w1 row) (ht : ∀ k, row = some k → ∃ cells t, W.heap[k]? = some (.cells cells t (0, 0)) ∧ t ≠ eo ∧ t ≠ ei) : Cl kd eo ei w1 base Bd V fs xss := { h with col := h.col.other hE hg ht }
theorem Cl.add (hE : kd.E = []) (hne : eo ≠ ei) (h : Cl kd eo ei W base Bd V fs xss) (hg : W.grownBy w1 V.ownBlock) (hx : Ext W w1 V v1) (ho : Row slKd eo w1 v1 (fs ++ [f])) (hr : Row kd ei W (sl f) xs) (hl : xs.length ≤ 16777216) (hf : ∀ u ∈ fs, ∀ k, (sl u).ownBlock = some k → (sl f).ownBlock ≠ some k) (hb : ∀ k, (sl f).ownBlock = some k → base ≤ k) (hB : base ≤ W.heap.size) : Cl kd eo ei w1 base (Bd + 1) v1 (fs ++ [f]) (xss ++ [xs]) :=
 ⟨h.col.snoc hE hne hg ho hr, h.apt.snoc hf, by rw [List.length_append]; exact Nat.succ_le_succ h.nl, fun y hy => (List.mem_append.1 hy).elim (h.rl y) (fun hy => by rw [List.mem_singleton.1 hy]; exact hl), fun k hk => by
  rcases hx.own with he | ⟨b, hb1, hb2⟩
  ·exact h.oo k (he ▸ hk)
  ·rw [hb1] at hk
   injection hk with hk
   omega, fun u hu => (List.mem_append.1 hu).elim (h.oi u) (fun hu => by rw [List.mem_singleton.1 hu]; exact hb)⟩
end
structure KpX (w : World) (GK base Bd : Nat) (N W T : Value) (fN fW fT : List Tr) (xN xW : List (List Int)) (xT : List (List S87)) : Prop where
 blk : w.heap[GK]? = some (.cells #[N, W, T] 78 (0, 0))
 hG : base ≤ GK
 cN : Cl (Kd.int .i8) 33 57 w base Bd N fN xN
 cW : Cl (Kd.int .i64) 22 2 w base Bd W fW xW
 cT : Cl k87 37 87 w base Bd T fT xT
def Kp (w : World) (GK base Bd : Nat) : Prop := ∃ N W T fN fW fT xN xW xT, KpX w GK base Bd N W T fN fW fT xN xW xT
section
variable {w0 w w1 w2 : World} {GK base Bd : Nat} {N W T v1 : Value} {fN fW fT : List Tr} {xN xW : List (List Int)} {xT : List (List S87)} {f : Tr}
theorem KpX.below (h : KpX w GK base Bd N W T fN fW fT xN xW xT) (hb : Below w.heap.size w w1) : KpX w1 GK base Bd N W T fN fW fT xN xW xT := ⟨blk_below h.blk hb, h.hG, h.cN.below hb, h.cW.below hb, h.cT.below hb⟩
theorem Kp.below (h : Kp w GK base Bd) (hb : Below w.heap.size w w1) : Kp w1 GK base Bd := by
 obtain ⟨N, W, T, fN, fW, fT, xN, xW, xT, h⟩ := h
 exact ⟨N, W, T, fN, fW, fT, xN, xW, xT, h.below hb⟩
theorem KpX.up {Bd' : Nat} (h : KpX w GK base Bd N W T fN fW fT xN xW xT) (hb : Bd ≤ Bd') : KpX w GK base Bd' N W T fN fW fT xN xW xT := ⟨h.blk, h.hG, h.cN.up hb, h.cW.up hb, h.cT.up hb⟩
theorem base_grown {w w1 : World} {row : Option Nat} (hg : w.grownBy w1 row) (hr : ∀ k, row = some k → base ≤ k) (hB : base ≤ w.heap.size) : Below base w w1 := ⟨hg.os, hg.tape, hg.output, hg.size, fun k hk => hg.block k (by omega) (fun he => by have := hr k he.symm; omega)⟩
theorem Cl.row {α : Type} {kd : Kd α} {eo ei : Nat} {V : Value} {fs : List Tr} {xss : List (List α)} (h : Cl kd eo ei w base Bd V fs xss) {t1 t2 : Nat} (h1 : eo ≠ t1) (h2 : eo ≠ t2) : ∀ k, V.ownBlock = some k → ∃ cells t, w.heap[k]? = some (.cells cells t (0, 0)) ∧ t ≠ t1 ∧ t ≠ t2 := fun k hk => by
 obtain ⟨c, hc⟩ := h.col.out.typed k hk
 exact ⟨c, eo, hc, h1, h2⟩
theorem set_row {cs : Array Value} {j : Nat} (h : w.heap[GK]? = some (.cells cs 78 (0, 0))) {t1 t2 : Nat} (h1 : 78 ≠ t1) (h2 : 78 ≠ t2) : ∀ k, some GK = some k → ∃ cells t, w.heap[k]? = some (.cells cells t (0, 0)) ∧ t ≠ t1 ∧ t ≠ t2 := fun k hk => by
 cases hk
 exact ⟨cs, 78, h, h1, h2⟩
theorem fresh_ne {α : Type} {kd : Kd α} {eo ei : Nat} {V v : Value} {fs : List Tr} {xss : List (List α)} {β : Type} {kd2 : Kd β} {e : Nat} {xs : List β} (h : Cl kd eo ei w0 base Bd V fs xss) (hr : Kd.R kd2 e w w0.heap.size (fun _ => True) v xs) : ∀ u ∈ fs, ∀ k, (sl u).ownBlock = some k → v.ownBlock ≠ some k := fun u hu k hk he => by
 have h1 := h.col.lt (sl u) (List.mem_map.2 ⟨u, hu, rfl⟩) k hk
 have h2 := Kd.R_base hr k he
 omega
theorem kpN {A : Option Addr} {c : Nat} {xs : List Int} (h : KpX w0 GK base Bd N W T fN fW fT xN xW xT) (hbt : base ≤ w0.heap.size) (hb : Below w0.heap.size w0 w) (hr : Kd.R (Kd.int .i8) 57 w w0.heap.size (fun _ => True) (.slice A xs.length c) xs) (hl : xs.length ≤ 16777216) (hg : w.grownBy w1 N.ownBlock) (hx : Ext w w1 N v1) (hR : Row slKd 33 w1 v1 (fN ++ [(A, xs.length, c)])) :
  Kp (w1.setCell ⟨GK, 0, none⟩ v1) GK base (Bd + 64) ∧ Below base w0 (w1.setCell ⟨GK, 0, none⟩ v1) := by
 have h1 := h.below hb
 have hb1 : w1.heap[GK]? = some (.cells #[N, W, T] 78 (0, 0)) := blk_g h1.blk hg (out_ne h1.cN.col.out h1.blk (by decide))
 have hs := grownBy_set w1 ⟨GK, 0, none⟩ v1
 have hz := hb.size
 refine ⟨⟨v1, W, T, _, fW, fT, _, xW, xT, ⟨blk_put hb1 0 _ rfl, h.hG, ((h1.cN.add rfl (by decide) hg hx hR (f := (A, xs.length, c)) (Row.of hr) hl (fresh_ne h.cN hr) (fun k hk => by have := Kd.R_base hr k hk; omega) (by omega)).other rfl hs (set_row (j := 0) hb1 (by decide) (by decide))).up (by omega), ((h1.cW.other rfl hg (h1.cN.row (by decide) (by decide))).other rfl hs (set_row (j := 0) hb1 (by decide) (by decide))).up (by omega), ((h1.cT.other rfl hg (h1.cN.row (by decide) (by decide))).other rfl hs (set_row (j := 0) hb1 (by decide) (by decide))).up (by omega)⟩⟩, ((hb.mono hbt).trans (base_grown hg h1.cN.oo (by omega))).setCell h.hG _⟩
theorem kpW {A : Option Addr} {c : Nat} {xs : List Int} (h : KpX w0 GK base Bd N W T fN fW fT xN xW xT) (hbt : base ≤ w0.heap.size) (hb : Below w0.heap.size w0 w) (hr : Kd.R (Kd.int .i64) 2 w w0.heap.size (fun _ => True) (.slice A xs.length c) xs) (hl : xs.length ≤ 16777216) (hg : w.grownBy w1 W.ownBlock) (hx : Ext w w1 W v1) (hR : Row slKd 22 w1 v1 (fW ++ [(A, xs.length, c)])) :
  Kp (w1.setCell ⟨GK, 1, none⟩ v1) GK base (Bd + 64) ∧ Below base w0 (w1.setCell ⟨GK, 1, none⟩ v1) := by
 have h1 := h.below hb
 have hb1 : w1.heap[GK]? = some (.cells #[N, W, T] 78 (0, 0)) := blk_g h1.blk hg (out_ne h1.cW.col.out h1.blk (by decide))
 have hs := grownBy_set w1 ⟨GK, 1, none⟩ v1
 have hz := hb.size
 refine ⟨⟨N, v1, T, fN, _, fT, xN, _, xT, ⟨blk_put hb1 1 _ rfl, h.hG, ((h1.cN.other rfl hg (h1.cW.row (by decide) (by decide))).other rfl hs (set_row (j := 1) hb1 (by decide) (by decide))).up (by omega), ((h1.cW.add rfl (by decide) hg hx hR (f := (A, xs.length, c)) (Row.of hr) hl (fresh_ne h.cW hr) (fun k hk => by have := Kd.R_base hr k hk; omega) (by omega)).other rfl hs (set_row (j := 1) hb1 (by decide) (by decide))).up (by omega), ((h1.cT.other rfl hg (h1.cW.row (by decide) (by decide))).other rfl hs (set_row (j := 1) hb1 (by decide) (by decide))).up (by omega)⟩⟩, ((hb.mono hbt).trans (base_grown hg h1.cW.oo (by omega))).setCell h.hG _⟩
theorem kpT {xs : List S87} (h1 : KpX w GK base Bd N W T fN fW fT xN xW xT) (hB : base ≤ w.heap.size) (hr : Row k87 87 w (sl f) xs) (hl : xs.length ≤ 16777216) (hf : ∀ u ∈ fT, ∀ k, (sl u).ownBlock = some k → (sl f).ownBlock ≠ some k) (hb : ∀ k, (sl f).ownBlock = some k → base ≤ k) (hg : w.grownBy w1 T.ownBlock) (hx : Ext w w1 T v1) (hR : Row slKd 37 w1 v1 (fT ++ [f])) :
  w1.heap[GK]? = some (.cells #[N, W, T] 78 (0, 0)) ∧ KpX (w1.setCell ⟨GK, 2, none⟩ v1) GK base (Bd + 1) N W v1 fN fW (fT ++ [f]) xN xW (xT ++ [xs]) ∧ Below base w (w1.setCell ⟨GK, 2, none⟩ v1) := by
 have hb1 : w1.heap[GK]? = some (.cells #[N, W, T] 78 (0, 0)) := blk_g h1.blk hg (out_ne h1.cT.col.out h1.blk (by decide))
 have hs := grownBy_set w1 ⟨GK, 2, none⟩ v1
 exact ⟨hb1, ⟨blk_put hb1 2 _ rfl, h1.hG, ((h1.cN.other rfl hg (h1.cT.row (by decide) (by decide))).other rfl hs (set_row (j := 2) hb1 (by decide) (by decide))).up (by omega), ((h1.cW.other rfl hg (h1.cT.row (by decide) (by decide))).other rfl hs (set_row (j := 2) hb1 (by decide) (by decide))).up (by omega), (h1.cT.add rfl (by decide) hg hx hR hr hl hf hb hB).other rfl hs (set_row (j := 2) hb1 (by decide) (by decide))⟩, (base_grown hg h1.cT.oo hB).setCell h1.hG _⟩
end
structure KeT (wb : World) (GK base Bd : Nat) (N W : Value) (fN fW fT : List Tr) (xN xW : List (List Int)) (lsv : Value) (m : Nat) (fr : Nat → Tr) (o : Nat → List S87) (i : Nat) (T1 : Value) (fT1 : List Tr) (xT1 : List (List S87)) (wr : World) : Prop where
 kp : KpX wr GK base (Bd + i) N W T1 fN fW fT1 xN xW xT1
 ft : fT1 = fT ++ tabS fr i
 ls : Row slKd 37 wr lsv (tabS fr m)
 lsT : ∀ k, lsv.ownBlock = some k → T1.ownBlock ≠ some k
 row : ∀ k, i ≤ k → k < m → Row k87 87 wr (sl (fr k)) (o k)
 bel : Below base wb wr
set_option maxHeartbeats 8000000 in
set_option maxRecDepth 100000 in
theorem keeps_calls {GK base Bd : Nat} {A B D X T V : Option Addr} {cA cB cD cX cT cV : Nat} {a b d x : List Int} {t : List S87} {vs : List (List Int)} (kd rw cl n : Int) (w : World) (hK : Kp w GK base Bd) (ht : Terms w) (hO : OpAt w A B D X T V cA cB cD cX cT cV a b d x t vs) (hF : OpFit a b d x vs) (hd : Bd ≤ 1048576) (hbt : base ≤ w.heap.size) :
  Calls Tryd.prog 45 #[.pointer (some ⟨GK, 0, none⟩), .agg (opBox A B D X T V cA cB cD cX cT cV a b d x t vs kd rw cl n)] w fun e w' => e = .returned (.tuple #[]) ∧ Kp w' GK base (Bd + 64) ∧ Below base w w' := by
 have hu39 := Tryd.underlying39
 have hu35 := Tryd.underlying35
 have hu78 := Tryd.underlying78
 have HF := Lib.hid hF
 unfold opBox
 go_enter Tryd.func45, Tryd.ntmps45
 go_upto_region 1 with (fail)
 obtain ⟨G, hG⟩ : ∃ y, y = w.heap.size := ⟨_, rfl⟩
 obtain ⟨W, hW⟩ : ∃ y, y = w.alloc (.cells #[.int .i64 kd, .int .i64 rw, .int .i64 cl, .slice D d.length cD, .slice A a.length cA, .slice B b.length cB, .slice X x.length cX, .slice V vs.length cV, .slice T t.length cT, .int .i64 n] 39) := ⟨_, rfl⟩
 have hb1 : W.heap[G]? = some (.cells #[.int .i64 kd, .int .i64 rw, .int .i64 cl, .slice D d.length cD, .slice A a.length cA, .slice B b.length cB, .slice X x.length cX, .slice V vs.length cV, .slice T t.length cT, .int .i64 n] 39 (0, 0)) := by rw [hW, hG]; exact blk_new _ _
 have hbl : Below w.heap.size w W := by rw [hW]; exact below_alloc (Below.refl _ _) _
 rw [← hW, ← hG]
 clear hW hG
 have hO2 := hO.below hbl
 have hT2 := ht.below hbl
 have hK2 := hK.below hbl
 have hbt2 : base ≤ W.heap.size := Nat.le_trans hbt hbl.size
 have HBL : Hid (Below base w W) := Lib.hid (hbl.mono hbt)
 clear hK ht hO hbl
 have k0 : W.cell? ⟨G, 0, none⟩ = some (.int .i64 kd) := (blk_cell hb1 0).trans rfl
 have k1 : W.cell? ⟨G, 1, none⟩ = some (.int .i64 rw) := (blk_cell hb1 1).trans rfl
 have k2 : W.cell? ⟨G, 2, none⟩ = some (.int .i64 cl) := (blk_cell hb1 2).trans rfl
 have k3 : W.cell? ⟨G, 3, none⟩ = some (.slice D d.length cD) := (blk_cell hb1 3).trans rfl
 have k4 : W.cell? ⟨G, 4, none⟩ = some (.slice A a.length cA) := (blk_cell hb1 4).trans rfl
 have k6 : W.cell? ⟨G, 6, none⟩ = some (.slice X x.length cX) := (blk_cell hb1 6).trans rfl
 have k7 : W.cell? ⟨G, 7, none⟩ = some (.slice V vs.length cV) := (blk_cell hb1 7).trans rfl
 have k8 : W.cell? ⟨G, 8, none⟩ = some (.slice T t.length cT) := (blk_cell hb1 8).trans rfl
 have k9 : W.cell? ⟨G, 9, none⟩ = some (.int .i64 n) := (blk_cell hb1 9).trans rfl
 have HB1 := Lib.hid hb1
 have HO := Lib.hid hO2
 have HT := Lib.hid hT2
 obtain ⟨KN, KW, KT, fN, fW, fT, xN, xW, xT, hX⟩ := hK2
 have HK := Lib.hid hX
 clear hX hb1 hO2 hT2
 go_upto_block 0 with (fail)
 by_cases h0 : kd = 2
 ·subst h0
  have HMC := Lib.hid (mat_calls rw cl W.drew (Kd.C_below HO.out.hD (below_drew (Below.refl _ _))) HO.out.lD HO.out.nD)
  have HMV : Hid (∀ (A2 : Option Addr) (c2 : Nat) (wq : World), Below W.drew.heap.size W.drew wq → Kd.R (Kd.int .i8) 57 wq W.drew.heap.size (fun _ => True) (.slice A2 d.length c2) d → AnsR (Kd.int .i64) 2 22 #[.agg #[.int .i64 rw, .int .i64 cl, .slice A2 d.length c2], .slice A a.length cA] wq (mvV rw cl d a).1) := Lib.hid (fun A2 c2 wq hq hr => by
   obtain ⟨p1, p2, p3⟩ := Kd.R_reads' hr
   exact mv_own0 p3 p2 (Kd.C_below HO.out.hA (below_step (below_drew (Below.refl W.heap.size W)) hq)) HO.out.lA HF.out.sD HF.out.sA HO.out.nD)
  have hxl : (mvV rw cl d a).1.length ≤ 16777216 := mv_length HO.out.nD
  go_upto_region 3 with (fail)
  go_region_held3 (fun w' => w'.cell? ⟨G, 1, none⟩ = some (.int .i64 rw) ∧ w'.cell? ⟨G, 2, none⟩ = some (.int .i64 cl) ∧ w'.cell? ⟨G, 3, none⟩ = some (.slice D d.length cD) ∧ w'.cell? ⟨G, 4, none⟩ = some (.slice A a.length cA)) (first | exact ⟨k1, k2, k3, k4⟩ | exact ⟨pw_cell_below hq k1, pw_cell_below hq k2, pw_cell_below hq k3, pw_cell_below hq k4⟩ | exact ⟨pw_cell_below hb (pw_cell_below hq k1), pw_cell_below hb (pw_cell_below hq k2), pw_cell_below hb (pw_cell_below hq k3), pw_cell_below hb (pw_cell_below hq k4)⟩ | fail) (first | (go_at_call 40; go_loud (refine HMC.out.mono ?_); rintro e wq ⟨A9, c9, rfl, hr9, hq⟩) | (go_at_call 22; go_loud (refine Calls.mono (HMV.out A9 c9 _ hq hr9) ?_); rintro e wb ⟨A1, c1, err, rfl, hr, hb⟩) | fail)
  rename_i hheld1
  clear hheld1 hr9 HMC HMV
  replace hr := Kd.R_lower hr hq.size
  replace hb : Below W.heap.size W wb := below_step (below_step (below_drew (Below.refl W.heap.size W)) hq) hb
  replace hr : Kd.R (Kd.int .i64) 2 wb W.heap.size (fun _ => True) (.slice A1 (mvV rw cl d a).1.length c1) (mvV rw cl d a).1 := hr
  obtain ⟨xs, hxs⟩ : ∃ xs, xs = (mvV rw cl d a).1 := ⟨_, rfl⟩
  rw [← hxs] at hr hxl ⊢
  clear k0 k1 k2 k3 k4 k6 k7 k8 k9 hq hxs
  have HR := Lib.hid hr
  have HB := Lib.hid hb
  have HKb := Lib.hid (HK.out.below hb)
  obtain ⟨An, cn, eN⟩ := Kd.R_slice HK.out.cW.col.out
  have g0 : wb.cell? ⟨GK, 1, none⟩ = some KW := (blk_cell HKb.out.blk 1).trans rfl
  have HL : Hid (fW.length ≤ Bd) := Lib.hid (by have h := HKb.out.cW; rw [h.col.len]; exact h.nl)
  clear hr hb eN
  go_wp2_with ((with_reducible refine gate_builtin (b := .append) (xs := #[.tmp 36, .tmp 38]) rfl ?_); at_builtin; refine R_append2 (d := slKd) rfl 0 rfl (.tmp 36) (.tmp 38) 42 22 (.slice none 0 0) 24 rfl Tryd.underlying42 linfo22 rfl (by decide) (by omega) KW fW (A1, xs.length, c1) [.slice A1 xs.length c1] rfl rfl rfl HKb.out.cW.col.out (Nat.zero_le _) (by have := HL.out; omega) ?_; intro v1 w2 hR hRo hg hx; have g0 : w2.cell? ⟨GK, 1, none⟩ = some KW := (blk_cell (blk_g HKb.out.blk hg (out_ne HKb.out.cW.col.out HKb.out.blk (by decide))) 1).trans rfl; have r0 := blk_frozen (blk_g HKb.out.blk hg (out_ne HKb.out.cW.col.out HKb.out.blk (by decide))) 1; have HN := Lib.hid (kpW HK.out hbt2 HB.out HR.out hxl hg hx hR); obtain ⟨A2, c2, e2⟩ := Kd.R_slice hR; rw [List.length_append, List.length_singleton] at e2; subst e2; clear hR hRo hg hx)
  go_end0
  exact ⟨rfl, HN.out.1, HBL.out.trans (HN.out.2)⟩
 by_cases h1 : kd = 3
 ·subst h1
  obtain ⟨xs, hxl, hc⟩ := narrow_own (s := n) HO.out.hX HO.out.lX HF.out.rX HO.out.nX
  have HC := Lib.hid hc
  clear hc
  go_wp2_with fail
  refine Calls.mono HC.out ?_
  rintro e wb ⟨A1, c1, err, rfl, hr, hb⟩
  clear k0 k1 k2 k3 k4 k6 k7 k8 k9 HC
  have HR := Lib.hid hr
  have HB := Lib.hid hb
  have HKb := Lib.hid (HK.out.below hb)
  obtain ⟨An, cn, eN⟩ := Kd.R_slice HK.out.cN.col.out
  have g0 : wb.cell? ⟨GK, 0, none⟩ = some KN := (blk_cell HKb.out.blk 0).trans rfl
  have HL : Hid (fN.length ≤ Bd) := Lib.hid (by have h := HKb.out.cN; rw [h.col.len]; exact h.nl)
  clear hr hb eN
  go_wp2_with ((with_reducible refine gate_builtin (b := .append) (xs := #[.tmp 56, .tmp 58]) rfl ?_); at_builtin; refine R_append2 (d := slKd) rfl 0 rfl (.tmp 56) (.tmp 58) 36 33 (.slice none 0 0) 24 rfl Tryd.underlying36 linfo33 rfl (by decide) (by omega) KN fN (A1, xs.length, c1) [.slice A1 xs.length c1] rfl rfl rfl HKb.out.cN.col.out (Nat.zero_le _) (by have := HL.out; omega) ?_; intro v1 w2 hR hRo hg hx; have g0 : w2.cell? ⟨GK, 0, none⟩ = some KN := (blk_cell (blk_g HKb.out.blk hg (out_ne HKb.out.cN.col.out HKb.out.blk (by decide))) 0).trans rfl; have r0 := blk_frozen (blk_g HKb.out.blk hg (out_ne HKb.out.cN.col.out HKb.out.blk (by decide))) 0; have HN := Lib.hid (kpN HK.out hbt2 HB.out HR.out hxl hg hx hR); obtain ⟨A2, c2, e2⟩ := Kd.R_slice hR; rw [List.length_append, List.length_singleton] at e2; subst e2; clear hR hRo hg hx)
  go_end0
  exact ⟨rfl, HN.out.1, HBL.out.trans (HN.out.2)⟩
 by_cases h2 : kd = 4
 ·subst h2
  obtain ⟨xs, hxl, hc⟩ := norm_own HO.out.hX HO.out.lX HO.out.hA HO.out.lA HF.out.sA HO.out.nX
  have HC := Lib.hid hc
  clear hc
  go_wp2_with fail
  refine Calls.mono HC.out ?_
  rintro e wb ⟨A1, c1, err, rfl, hr, hb⟩
  clear k0 k1 k2 k3 k4 k6 k7 k8 k9 HC
  have HR := Lib.hid hr
  have HB := Lib.hid hb
  have HKb := Lib.hid (HK.out.below hb)
  obtain ⟨An, cn, eN⟩ := Kd.R_slice HK.out.cN.col.out
  have g0 : wb.cell? ⟨GK, 0, none⟩ = some KN := (blk_cell HKb.out.blk 0).trans rfl
  have HL : Hid (fN.length ≤ Bd) := Lib.hid (by have h := HKb.out.cN; rw [h.col.len]; exact h.nl)
  clear hr hb eN
  go_wp2_with ((with_reducible refine gate_builtin (b := .append) (xs := #[.tmp 76, .tmp 78]) rfl ?_); at_builtin; refine R_append2 (d := slKd) rfl 0 rfl (.tmp 76) (.tmp 78) 36 33 (.slice none 0 0) 24 rfl Tryd.underlying36 linfo33 rfl (by decide) (by omega) KN fN (A1, xs.length, c1) [.slice A1 xs.length c1] rfl rfl rfl HKb.out.cN.col.out (Nat.zero_le _) (by have := HL.out; omega) ?_; intro v1 w2 hR hRo hg hx; have g0 : w2.cell? ⟨GK, 0, none⟩ = some KN := (blk_cell (blk_g HKb.out.blk hg (out_ne HKb.out.cN.col.out HKb.out.blk (by decide))) 0).trans rfl; have r0 := blk_frozen (blk_g HKb.out.blk hg (out_ne HKb.out.cN.col.out HKb.out.blk (by decide))) 0; have HN := Lib.hid (kpN HK.out hbt2 HB.out HR.out hxl hg hx hR); obtain ⟨A2, c2, e2⟩ := Kd.R_slice hR; rw [List.length_append, List.length_singleton] at e2; subst e2; clear hR hRo hg hx)
  go_end0
  exact ⟨rfl, HN.out.1, HBL.out.trans (HN.out.2)⟩
 by_cases h3 : kd = 6
 ·subst h3
  obtain ⟨xs, hxl, hc⟩ := soft_own HT.out HO.out.hX HO.out.lX HO.out.nX
  have HC := Lib.hid hc
  clear hc
  go_wp2_with fail
  refine Calls.mono HC.out ?_
  rintro e wb ⟨A1, c1, err, rfl, hr, hb⟩
  clear k0 k1 k2 k3 k4 k6 k7 k8 k9 HC
  have HR := Lib.hid hr
  have HB := Lib.hid hb
  have HKb := Lib.hid (HK.out.below hb)
  obtain ⟨An, cn, eN⟩ := Kd.R_slice HK.out.cW.col.out
  have g0 : wb.cell? ⟨GK, 1, none⟩ = some KW := (blk_cell HKb.out.blk 1).trans rfl
  have HL : Hid (fW.length ≤ Bd) := Lib.hid (by have h := HKb.out.cW; rw [h.col.len]; exact h.nl)
  clear hr hb eN
  go_wp2_with ((with_reducible refine gate_builtin (b := .append) (xs := #[.tmp 94, .tmp 96]) rfl ?_); at_builtin; refine R_append2 (d := slKd) rfl 0 rfl (.tmp 94) (.tmp 96) 42 22 (.slice none 0 0) 24 rfl Tryd.underlying42 linfo22 rfl (by decide) (by omega) KW fW (A1, xs.length, c1) [.slice A1 xs.length c1] rfl rfl rfl HKb.out.cW.col.out (Nat.zero_le _) (by have := HL.out; omega) ?_; intro v1 w2 hR hRo hg hx; have g0 : w2.cell? ⟨GK, 1, none⟩ = some KW := (blk_cell (blk_g HKb.out.blk hg (out_ne HKb.out.cW.col.out HKb.out.blk (by decide))) 1).trans rfl; have r0 := blk_frozen (blk_g HKb.out.blk hg (out_ne HKb.out.cW.col.out HKb.out.blk (by decide))) 1; have HN := Lib.hid (kpW HK.out hbt2 HB.out HR.out hxl hg hx hR); obtain ⟨A2, c2, e2⟩ := Kd.R_slice hR; rw [List.length_append, List.length_singleton] at e2; subst e2; clear hR hRo hg hx)
  go_end0
  exact ⟨rfl, HN.out.1, HBL.out.trans (HN.out.2)⟩
 by_cases h4 : kd = 7
 ·subst h4
  obtain ⟨xs, hxl, hc⟩ := blend_own HO.out.hX HO.out.lX HO.out.hV HO.out.lV HO.out.nX HO.out.nV HO.out.nr HF.out.sV
  have HC := Lib.hid hc
  clear hc
  go_wp2_with fail
  refine Calls.mono HC.out ?_
  rintro e wb ⟨A1, c1, err, rfl, hr, hb⟩
  clear k0 k1 k2 k3 k4 k6 k7 k8 k9 HC
  have HR := Lib.hid hr
  have HB := Lib.hid hb
  have HKb := Lib.hid (HK.out.below hb)
  obtain ⟨An, cn, eN⟩ := Kd.R_slice HK.out.cN.col.out
  have g0 : wb.cell? ⟨GK, 0, none⟩ = some KN := (blk_cell HKb.out.blk 0).trans rfl
  have HL : Hid (fN.length ≤ Bd) := Lib.hid (by have h := HKb.out.cN; rw [h.col.len]; exact h.nl)
  clear hr hb eN
  go_wp2_with ((with_reducible refine gate_builtin (b := .append) (xs := #[.tmp 114, .tmp 116]) rfl ?_); at_builtin; refine R_append2 (d := slKd) rfl 0 rfl (.tmp 114) (.tmp 116) 36 33 (.slice none 0 0) 24 rfl Tryd.underlying36 linfo33 rfl (by decide) (by omega) KN fN (A1, xs.length, c1) [.slice A1 xs.length c1] rfl rfl rfl HKb.out.cN.col.out (Nat.zero_le _) (by have := HL.out; omega) ?_; intro v1 w2 hR hRo hg hx; have g0 : w2.cell? ⟨GK, 0, none⟩ = some KN := (blk_cell (blk_g HKb.out.blk hg (out_ne HKb.out.cN.col.out HKb.out.blk (by decide))) 0).trans rfl; have r0 := blk_frozen (blk_g HKb.out.blk hg (out_ne HKb.out.cN.col.out HKb.out.blk (by decide))) 0; have HN := Lib.hid (kpN HK.out hbt2 HB.out HR.out hxl hg hx hR); obtain ⟨A2, c2, e2⟩ := Kd.R_slice hR; rw [List.length_append, List.length_singleton] at e2; subst e2; clear hR hRo hg hx)
  go_end0
  exact ⟨rfl, HN.out.1, HBL.out.trans (HN.out.2)⟩
 by_cases h5 : kd = 8
 ·subst h5
  have hc := tu_own (n := n) HO.out.hT HO.out.lT HO.out.nT
  have HC := Lib.hid hc
  clear hc
  go_wp2_with fail
  refine Calls.mono HC.out ?_
  rintro e wb ⟨A1, m, c1, err, fr, o, ml, rfl, hr, hrow, hpair, hm, hml, hb⟩
  clear k0 k1 k2 k3 k4 k6 k7 k8 k9 HC
  obtain ⟨lsv, hlsv⟩ : ∃ y, y = Value.slice A1 m c1 := ⟨_, rfl⟩
  have HLS := Lib.hid hlsv
  have HST : Hid (KeT wb GK base Bd KN KW fN fW fT xN xW lsv m fr o 0 KT fT xT wb) := Lib.hid ⟨HK.out.below hb, by rw [show tabS fr 0 = [] from rfl, List.append_nil], by rw [hlsv]; exact Row.of hr, fun k hk he => by rw [hlsv] at hk; have := Kd.R_base hr k hk; have := Kd.R_lt HK.out.cT.col.out k he; omega, fun k _ hk => Row.of (hrow k hk).1, Below.refl _ _⟩
  have HFR : Hid (∀ k, k < m → (∀ b, (sl (fr k)).ownBlock = some b → base ≤ b) ∧ (o k).length = ml ∧ ∀ u ∈ fT, ∀ b, (sl u).ownBlock = some b → (sl (fr k)).ownBlock ≠ some b) := Lib.hid (fun k hk => ⟨fun b he => by have := Kd.R_base (hrow k hk).1 b he; omega, (hrow k hk).2, fun u hu b he he2 => by have := HK.out.cT.col.lt (sl u) (List.mem_map.2 ⟨u, hu, rfl⟩) b he; have := Kd.R_base (hrow k hk).1 b he2; omega⟩)
  have HPAIR := Lib.hid hpair
  have HBW := Lib.hid (HBL.out.trans (hb.mono hbt2))
  have hbw : base ≤ wb.heap.size := by have := hb.size; omega
  clear hr hrow hpair hb hlsv
  go_wp2
  go_loopw [16] (fun y wr => ∃ (i : Nat) (T1 : Value) (fT1 : List Tr) (xT1 : List (List S87)), y = .int .i64 (i : Int) ∧ i ≤ m ∧ KeT wb GK base Bd KN KW fN fW fT xN xW lsv m fr o i T1 fT1 xT1 wr) (fun y _ => m - (intOf y).toNat)
  case atStart => exact ⟨0, KT, fT, xT, rfl, Nat.zero_le _, HST.out⟩
  case round =>
   rename World => wa
   clear HST
   obtain ⟨i, T1, fT1, xT1, rfl, hi, hS⟩ := hrel
   have HS := Lib.hid hS
   clear hS
   by_cases hlt : i < m
   ·have d1 : decide ((i : Int) < (m : Int)) = true := decide_eq_true (by omega)
    have d2 : decide (i < m) = true := decide_eq_true hlt
    obtain ⟨gl, cap, hlv, _, _, _⟩ := Kd.R_form HS.out.ls (by rw [tabS_length]; omega)
    rw [tabS_length] at hlv
    have hlv2 := HLS.out
    rw [hlv] at hlv2
    obtain ⟨rfl, -, rfl⟩ := Value.slice.inj hlv2
    clear hlv2
    obtain ⟨⟨Ai, mi, ci⟩, hfi⟩ : ∃ f, fr i = f := ⟨_, rfl⟩
    have hri : Row k87 87 wa (.slice Ai mi ci) (o i) := by have := HS.out.row i (Nat.le_refl _) hlt; rwa [hfi] at this
    have hmi : mi = ml := by rw [(Kd.R_reads' hri).1]; exact (HFR.out i hlt).2.1
    subst hmi
    have lcell : ∀ W : World, Row slKd 37 W lsv (tabS fr m) → W.cell? ⟨gl, i, none⟩ = some (.slice Ai mi ci) := fun W h => by
     rw [hlv] at h
     obtain ⟨h1, -⟩ := Kd.R_celln (none, 0, 0) h (i : Int) (by omega) (by omega)
     rw [Int.toNat_natCast, show rdOf (none, 0, 0) (tabS fr m) (i : Int) = (Ai, mi, ci) by unfold rdOf; rw [Int.toNat_natCast, List.getD_eq_getElem?_getD, tabS_get? hlt, hfi]; rfl] at h1
     exact h1
    have HLC := Lib.hid lcell
    have cl := lcell wa.drew (HS.out.ls.below (below_drew (Below.refl _ _)))
    clear lcell
    have hKD := HS.out.kp.below (below_drew (Below.refl wa.heap.size wa))
    have c2 : wa.drew.cell? ⟨GK, 2, none⟩ = some T1 := (blk_cell hKD.blk 2).trans rfl
    have HKD := Lib.hid hKD
    have HRI := Lib.hid (hri.below (below_drew (Below.refl _ _)))
    have HFI := Lib.hid hfi
    have HLT := Lib.hid hlt
    have HLV := Lib.hid hlv
    have HFL : Hid (fT1.length ≤ Bd + i) := Lib.hid (by rw [hKD.cT.col.len]; exact hKD.cT.nl)
    have HBA : Hid (base ≤ wa.drew.heap.size) := Lib.hid (Nat.le_trans hbw HS.out.bel.size)
    have q0 : (0 : Int) ≤ (i : Int) := by omega
    have q1 : (i : Int) < (m : Int) := by omega
    clear hKD hri hfi hlt hi hlv
    go_upto_region 22 with (fail)
    refine start_ (n := 14) (S := fun w' => w'.cell? ⟨GK, 2, none⟩ = some T1 ∧ w'.cell? ⟨gl, i, none⟩ = some (.slice Ai mi ci)) (ds := [13]) #[false, false, false, false, false, false, false, false, false, false, false, false, false, false] (by kernel_rfl) rfl rfl ⟨c2, cl⟩ (fun hHeld => ?_)
    refine pu_ 0 136 ?_
    refine pu_ 1 137 ?_
    refine pu_ 2 138 ?_
    refine pu_ 3 139 ?_
    refine pu_ 5 141 ?_
    refine pu_ 6 142 ?_
    refine pu_ 7 143 ?_
    refine tk_ 4 140 hHeld ?_
    refine tk_ 8 144 hHeld ?_
    refine on_ 9 (some 145) (fun K hK => ?_)
    refine value_ (w1 := ?_) (v := ?_) (by rfl) rfl ?_ ?_
    rotate_left 2
    ·go_simp
     constructor
     ·rfl
     ·rfl
    refine hK.out _ _ ⟨pw_cell_below (below_alloc (Below.refl wa.drew.heap.size wa.drew) _) c2, pw_cell_below (below_alloc (Below.refl wa.drew.heap.size wa.drew) _) cl⟩ (fun hHeld => ?_)
    clear hK K
    refine nm_ 145 ?_
    refine on_ 10 (some 146) (fun K hK => ?_)
    refine R_append2_step (P := Tryd.prog) (Kc := K) (d := slKd) rfl (W := wa.drew) 0 ?cw (.tmp 140) (.tmp 145) 43 37 (.slice none 0 0) 24 rfl Tryd.underlying43 tinfo37 rfl (by decide) (by omega) T1 fT1 (Ai, mi, ci) [.slice Ai mi ci] rfl rfl rfl HKD.out.cT.col.out (Nat.zero_le _) ?cl ?_
    case cw => rfl
    case cl => have := HFL.out; have := HLT.out; omega
    intro v1 w1 hR hRo hg hx
    obtain ⟨A2, c2_, e1⟩ := Kd.R_slice hR
    rw [List.length_append, List.length_singleton] at e1
    subst e1
    have ho := kpT HKD.out HBA.out (f := (Ai, mi, ci)) HRI.out (by rw [(HFR.out i HLT.out).2.1]; exact hml) (fun u hu k hk => by
    rw [HS.out.ft] at hu
    rcases List.mem_append.1 hu with hu | hu
    ·have h := (HFR.out i HLT.out).2.2 u hu k hk
     rwa [HFI.out] at h
    ·obtain ⟨j, hj, hje⟩ := tabS_mem (List.mem_map.2 ⟨u, hu, rfl⟩)
     have h := HPAIR.out j i (by have := HLT.out; omega) HLT.out (by omega) k (by rw [← hje]; exact hk)
     rwa [HFI.out] at h) (fun k hk => (HFR.out i HLT.out).1 k (by rw [HFI.out]; exact hk)) hg hx hR
    have HO1 := Lib.hid ho
    have HXX := Lib.hid hx
    have HRW : Hid (∀ k, i + 1 ≤ k → k < m → Row k87 87 (w1.setCell ⟨GK, 2, none⟩ (.slice A2 (fT1.length + 1) c2_)) (sl (fr k)) (o k)) := Lib.hid (fun k h1 h2 => by
    have h3 := (HS.out.row k (by omega) h2).below (below_drew (Below.refl _ _))
    have h4 := h3.grown rfl hg (fun b hb he => by
     obtain ⟨q, hc⟩ := HKD.out.cT.col.out.typed b he
     obtain ⟨q', hc'⟩ := h3.typed b hb
     exact absurd (typed_ne hc hc') (by decide))
    exact h4.grown rfl (grownBy_set w1 ⟨GK, 2, none⟩ _) (fun b hb he => by
     cases he
     obtain ⟨q', hc'⟩ := h4.typed _ hb
     exact absurd (typed_ne hc' ho.1) (by decide)))
    have HLG := Lib.hid (HS.out.ls.below (below_drew (Below.refl _ _)) |>.grown rfl hg (fun k hk => HS.out.lsT k hk))
    have c2x : w1.cell? ⟨GK, 2, none⟩ = some T1 := (blk_cell ho.1 2).trans rfl
    have r2x := blk_frozen ho.1 2
    have clx := HLC.out w1 HLG.out
    clear hR hRo hg hx ho
    refine hK.out _ _ ⟨c2x, clx⟩ (fun hHeld => ?_)
    clear hK K
    refine nm_ 146 ?_
    refine pu_ 11 147 ?_
    refine pu_ 12 148 ?_
    refine ls_ 13 none (fun K hK => ?_)
    refine sk_ (hK.out _ _ ?_)
    clear hK K
    refine dn_ ?_
    go_wp2
    obtain ⟨Tn, hTn⟩ : ∃ y, y = Value.slice A2 (fT1.length + 1) c2_ := ⟨_, rfl⟩
    obtain ⟨w2, hw2⟩ : ∃ y, y = w1.setCell ⟨GK, 2, none⟩ (.slice A2 (fT1.length + 1) c2_) := ⟨_, rfl⟩
    have hls2 := HLG.out.grown rfl (grownBy_set w1 ⟨GK, 2, none⟩ (.slice A2 (fT1.length + 1) c2_)) (fun k hk h1 => out_ne HLG.out HO1.out.1 (by decide) (by rw [hk, h1]))
    have hrow2 := HRW.out
    rw [← hw2] at hrow2
    rw [← hw2] at hls2
    rw [← hw2, ← hTn] at HO1
    rw [← hTn] at HXX
    rw [← hw2]
    have hlsT2 : ∀ k, lsv.ownBlock = some k → Tn.ownBlock ≠ some k := fun k hk he => by
     rcases HXX.out.own with ho | ⟨b, hb1, hb2⟩
     ·exact HS.out.lsT k hk (ho ▸ he)
     ·rw [hb1] at he
      injection he with he
      have : k < wa.heap.size := Kd.R_lt HS.out.ls k hk
      have : wa.heap.size ≤ b := hb2
      omega
    try rw [up1 (by have := HLT.out; omega)]
    go_roundw
    case rel => exact ⟨i + 1, Tn, _, _, rfl, HLT.out, HO1.out.2.1, by rw [HS.out.ft, List.append_assoc, tabS_succ, HFI.out], hls2, hlsT2, hrow2, HS.out.bel.trans (below_drew1 (Below.refl _ _) |>.trans HO1.out.2.2)⟩
    case measure => have := HLT.out; simp [intOf]; omega
   ·have d1 : decide ((i : Int) < (m : Int)) = false := decide_eq_false (by omega)
    have d2 : decide (i < m) = false := decide_eq_false hlt
    have HUP : Hid (Bd + i ≤ Bd + 64) := Lib.hid (by omega)
    clear hi hlt
    go_wp2
    go_end0
    exact ⟨rfl, ⟨KN, KW, T1, fN, fW, fT1, xN, xW, xT1, HS.out.kp.up HUP.out⟩, HBW.out.trans HS.out.bel⟩
 by_cases h6 : kd = 9
 ·subst h6
  obtain ⟨xs, hxl, hc⟩ := rot_own HO.out.hA HO.out.lA HO.out.hT HO.out.lT HF.out.sA HO.out.nA HO.out.nT
  have HC := Lib.hid hc
  clear hc
  go_wp2_with fail
  refine Calls.mono HC.out ?_
  rintro e wb ⟨A1, c1, err, rfl, hr, hb⟩
  clear k0 k1 k2 k3 k4 k6 k7 k8 k9 HC
  have HR := Lib.hid hr
  have HB := Lib.hid hb
  have HKb := Lib.hid (HK.out.below hb)
  obtain ⟨An, cn, eN⟩ := Kd.R_slice HK.out.cN.col.out
  have g0 : wb.cell? ⟨GK, 0, none⟩ = some KN := (blk_cell HKb.out.blk 0).trans rfl
  have HL : Hid (fN.length ≤ Bd) := Lib.hid (by have h := HKb.out.cN; rw [h.col.len]; exact h.nl)
  clear hr hb eN
  go_wp2_with ((with_reducible refine gate_builtin (b := .append) (xs := #[.tmp 163, .tmp 165]) rfl ?_); at_builtin; refine R_append2 (d := slKd) rfl 0 rfl (.tmp 163) (.tmp 165) 36 33 (.slice none 0 0) 24 rfl Tryd.underlying36 linfo33 rfl (by decide) (by omega) KN fN (A1, xs.length, c1) [.slice A1 xs.length c1] rfl rfl rfl HKb.out.cN.col.out (Nat.zero_le _) (by have := HL.out; omega) ?_; intro v1 w2 hR hRo hg hx; have g0 : w2.cell? ⟨GK, 0, none⟩ = some KN := (blk_cell (blk_g HKb.out.blk hg (out_ne HKb.out.cN.col.out HKb.out.blk (by decide))) 0).trans rfl; have r0 := blk_frozen (blk_g HKb.out.blk hg (out_ne HKb.out.cN.col.out HKb.out.blk (by decide))) 0; have HN := Lib.hid (kpN HK.out hbt2 HB.out HR.out hxl hg hx hR); obtain ⟨A2, c2, e2⟩ := Kd.R_slice hR; rw [List.length_append, List.length_singleton] at e2; subst e2; clear hR hRo hg hx)
  go_end0
  exact ⟨rfl, HN.out.1, HBL.out.trans (HN.out.2)⟩
 go_wp2
 go_end0
 exact ⟨rfl, ⟨KN, KW, KT, fN, fW, fT, xN, xW, xT, HK.out.up (by omega)⟩, HBL.out⟩
end Wk
end Go.Proofs.YtnioohhiphpplaaDoor.Dp
