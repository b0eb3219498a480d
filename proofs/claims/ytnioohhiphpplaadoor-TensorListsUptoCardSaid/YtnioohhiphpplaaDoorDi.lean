/- The walk of augurlaw03.in: the twins of an operation's lists. -/
import Derived.Test.YtnioohhiphpplaaDoorDu
import Derived.Lib.Hide
import Derived.Test.YtnioohhiphpplaaDoorSq
set_option linter.unusedVariables false
set_option linter.unusedSimpArgs false
namespace Go.Proofs.YtnioohhiphpplaaDoor.Dp
open Go.RowKit Go.Proofs.YtnioohhiphpplaaDoor.Pplays Go.Proofs.YtnioohhiphpplaaDoorW.PrintWords Go.Proofs.YtnioohhiphpplaaDoorW.PrintLast Go.Proofs.YtnioohhiphpplaaDoorW.PrintMore Go.Proofs.YtnioohhiphpplaaDoor.M Go.Lib
namespace Wk
def pad (l : List Int) : List Int := l ++ marks
def padT (l : List S87) : List S87 := l ++ marksT
def padV (l : List (List Int)) : List (List Int) := l.map pad
def z6 : Array Value := #[.slice none 0 0, .slice none 0 0, .slice none 0 0, .slice none 0 0, .slice none 0 0, .slice none 0 0]
theorem narrowed_calls {A : Option Addr} {l : List Int} {c : Nat} (w : World) (h : Kd.C (Kd.int .i8) w A l.length l) (hc : l.length ≤ c) (hl : l.length ≤ 16777216) :
  Calls Tryd.prog 25 #[.slice A l.length c] w fun e w' => ∃ v, e = .returned v ∧ Kd.R (Kd.int .i8) 57 w' w.heap.size (fun _ => True) v (pad l) ∧ Below w.heap.size w w' :=
 augurlaw03_narrowed.calls (l.length + 65) A c l _ w h hc (narrowed_is hl (by omega))
theorem widened_calls {A : Option Addr} {l : List Int} {c : Nat} (w : World) (h : Kd.C (Kd.int .i64) w A l.length l) (hc : l.length ≤ c) (hl : l.length ≤ 16777216) :
  Calls Tryd.prog 26 #[.slice A l.length c] w fun e w' => ∃ v, e = .returned v ∧ Kd.R (Kd.int .i64) 2 w' w.heap.size (fun _ => True) v (pad l) ∧ Below w.heap.size w w' :=
 augurlaw03_widened.calls (l.length + 65) A c l _ w h hc (widened_is hl (by omega))
theorem turned_calls {A : Option Addr} {l : List S87} {c : Nat} (w : World) (h : Kd.C k87 w A l.length l) (hc : l.length ≤ c) (hl : l.length ≤ 16777216) :
  Calls Tryd.prog 27 #[.slice A l.length c] w fun e w' => ∃ v, e = .returned v ∧ Kd.R k87 87 w' w.heap.size (fun _ => True) v (padT l) ∧ Below w.heap.size w w' :=
 augurlaw03_turned.calls (l.length + 65) A c l _ w h hc (turned_is hl (by omega))
structure OpAt (w : World) (A B D X T V : Option Addr) (cA cB cD cX cT cV : Nat) (a b d x : List Int) (t : List S87) (vs : List (List Int)) : Prop where
 hA : Kd.C (Kd.int .i8) w A a.length a
 hB : Kd.C (Kd.int .i8) w B b.length b
 hD : Kd.C (Kd.int .i8) w D d.length d
 hX : Kd.C (Kd.int .i64) w X x.length x
 hT : Kd.C k87 w T t.length t
 hV : Kd.C (Kd.slice 57 (Kd.int .i8)) w V vs.length vs
 lA : a.length ≤ cA
 lB : b.length ≤ cB
 lD : d.length ≤ cD
 lX : x.length ≤ cX
 lT : t.length ≤ cT
 lV : vs.length ≤ cV
 nA : a.length ≤ 16777216
 nB : b.length ≤ 16777216
 nD : d.length ≤ 16777216
 nX : x.length ≤ 16777216
 nT : t.length ≤ 16777216
 nV : vs.length ≤ 16777216
 nr : ∀ r ∈ vs, r.length ≤ 16777216
theorem OpAt.below {w w1 : World} {A B D X T V : Option Addr} {cA cB cD cX cT cV : Nat} {a b d x : List Int} {t : List S87} {vs : List (List Int)} (h : OpAt w A B D X T V cA cB cD cX cT cV a b d x t vs) (hb : Below w.heap.size w w1) : OpAt w1 A B D X T V cA cB cD cX cT cV a b d x t vs :=
 { h with hA := Kd.C_below h.hA hb, hB := Kd.C_below h.hB hb, hD := Kd.C_below h.hD hb, hX := Kd.C_below h.hX hb, hT := Kd.C_below h.hT hb, hV := Kd.C_below h.hV hb }
structure InR (w : World) (base : Nat) (a1 b1 d1 x1 t1 v1 : Value) (a b d x : List Int) (t : List S87) (vs : List (List Int)) : Prop where
 hA : Kd.R (Kd.int .i8) 57 w base (fun _ => True) a1 (pad a)
 hB : Kd.R (Kd.int .i8) 57 w base (fun _ => True) b1 (pad b)
 hD : Kd.R (Kd.int .i8) 57 w base (fun _ => True) d1 (pad d)
 hX : Kd.R (Kd.int .i64) 2 w base (fun _ => True) x1 (pad x)
 hT : Kd.R k87 87 w base (fun _ => True) t1 (padT t)
 hV : Kd.S (Kd.slice 57 (Kd.int .i8)) 33 w base (fun _ => True) v1 (padV vs)
 apB : Go.Proofs.YtnioohhiphpplaaDoor.Wk.Apart a1 b1
 apD : Go.Proofs.YtnioohhiphpplaaDoor.Wk.Apart a1 d1 ∧ Go.Proofs.YtnioohhiphpplaaDoor.Wk.Apart b1 d1
 sep : ∃ M, (∀ k, a1.ownBlock = some k ∨ b1.ownBlock = some k ∨ d1.ownBlock = some k → k < M) ∧ Kd.S (Kd.slice 57 (Kd.int .i8)) 33 w M (fun _ => True) v1 (padV vs)
theorem InR.below {w w1 : World} {base : Nat} {a1 b1 d1 x1 t1 v1 : Value} {a b d x : List Int} {t : List S87} {vs : List (List Int)} (h : InR w base a1 b1 d1 x1 t1 v1 a b d x t vs) (hb : Below w.heap.size w w1) : InR w1 base a1 b1 d1 x1 t1 v1 a b d x t vs :=
 ⟨Kd.R_below h.hA hb, Kd.R_below h.hB hb, Kd.R_below h.hD hb, Kd.R_below h.hX hb, Kd.R_below h.hT hb, Kd.S_below h.hV hb, h.apB, h.apD, h.sep.imp fun _ hM => ⟨hM.1, Kd.S_below hM.2 hb⟩⟩
theorem apart_new {α β : Type} {kd : Kd α} {kd2 : Kd β} {e e2 base : Nat} {W W1 : World} {u v : Value} {xs : List α} {ys : List β} (h : Kd.R kd e W base (fun _ => True) u xs) (hr : Kd.R kd2 e2 W1 W.heap.size (fun _ => True) v ys) : Go.Proofs.YtnioohhiphpplaaDoor.Wk.Apart u v := fun k hk he => by
 have h1 := Kd.R_lt h k hk
 have h2 := Kd.R_base hr k he.symm
 omega
structure InF (w : World) (G G1 : Nat) (bx : Array Value) (a b d x : List Int) (t : List S87) (a1 b1 d1 x1 t1 : Value) (g : Nat) (j : Nat) (al : Bool) (W : World) : Prop where
 box : W.heap[G]? = some (.cells bx 39 (0, 0))
 res : W.heap[G1]? = some (.cells z6 47 (0, 0))
 bel : Below w.heap.size w W
 hA : 0 < j → Kd.R (Kd.int .i8) 57 W w.heap.size (fun _ => True) a1 (pad a)
 hB : 1 < j → Kd.R (Kd.int .i8) 57 W w.heap.size (fun _ => True) b1 (pad b)
 hD : 2 < j → Kd.R (Kd.int .i8) 57 W w.heap.size (fun _ => True) d1 (pad d)
 hX : 3 < j → Kd.R (Kd.int .i64) 2 W w.heap.size (fun _ => True) x1 (pad x)
 hT : 4 < j → Kd.R k87 87 W w.heap.size (fun _ => True) t1 (padT t)
 hg : al = true → W.heap[g]? = some (.cells z6 47 (0, 0)) ∧ w.heap.size ≤ g ∧ G1 < g
 apB : 1 < j → Go.Proofs.YtnioohhiphpplaaDoor.Wk.Apart a1 b1
 apD : 2 < j → Go.Proofs.YtnioohhiphpplaaDoor.Wk.Apart a1 d1 ∧ Go.Proofs.YtnioohhiphpplaaDoor.Wk.Apart b1 d1
section
variable {w : World} {G G1 : Nat} {bx : Array Value} {a b d x : List Int} {t : List S87} {a1 b1 d1 x1 t1 : Value} {g j : Nat} {aq : Bool} {W W1 : World}
theorem InF.step (h : InF w G G1 bx a b d x t a1 b1 d1 x1 t1 g j aq W) (hb : Below W.heap.size W W1) : InF w G G1 bx a b d x t a1 b1 d1 x1 t1 g j aq W1 :=
 ⟨blk_below h.box hb, blk_below h.res hb, below_step h.bel hb, fun hj => Kd.R_below (h.hA hj) hb, fun hj => Kd.R_below (h.hB hj) hb, fun hj => Kd.R_below (h.hD hj) hb, fun hj => Kd.R_below (h.hX hj) hb, fun hj => Kd.R_below (h.hT hj) hb, fun hl => ⟨blk_below (h.hg hl).1 hb, (h.hg hl).2⟩, h.apB, h.apD⟩
theorem InF.alo (h : InF w G G1 bx a b d x t a1 b1 d1 x1 t1 g j false W) (hb : Below W.heap.size W W1) {g2 : Nat} (hg : g2 = W.heap.size) (hx : W1.heap[g2]? = some (.cells z6 47 (0, 0))) : InF w G G1 bx a b d x t a1 b1 d1 x1 t1 g2 j true W1 :=
 { h.step hb with hg := fun _ => ⟨hx, by rw [hg]; exact h.bel.size, by rw [hg]; exact blk_lt h.res⟩ }
end
theorem blk_new2 (w : World) (o : Obj) (o2 : Obj) : ((w.alloc o).alloc o2).heap[w.heap.size + 1]? = some o2 := by
 have h := blk_new (w.alloc o) o2
 rwa [show (w.alloc o).heap.size = w.heap.size + 1 from Array.size_push _] at h
def opBox (A B D X T V : Option Addr) (cA cB cD cX cT cV : Nat) (a b d x : List Int) (t : List S87) (vs : List (List Int)) (kd rw cl n : Int) : Array Value :=
 #[.int .i64 kd, .int .i64 rw, .int .i64 cl, .slice D d.length cD, .slice A a.length cA, .slice B b.length cB, .slice X x.length cX, .slice V vs.length cV, .slice T t.length cT, .int .i64 n]
theorem R_kb {α : Type} {kd : Kd α} {e : Nat} {W W1 : World} {base g t : Nat} {v : Value} {xs : List α} {cs : Array Value} (h : Kd.R kd e W base (fun _ => True) v xs) (hb : W.heap[g]? = some (.cells cs t (0, 0))) (ht : ∀ q, q ∈ e :: kd.E → q ≠ t) (hk : KeepBut W W1 g none) : Kd.R kd e W1 base (fun _ => True) v xs :=
 Kd.R_mono (Kd.R_keep (Kd.R_types h hb ht) hk (fun _ hk => hk.2)) (fun _ _ => trivial)
theorem S_kb {α : Type} {kd : Kd α} {e : Nat} {W W1 : World} {base g t : Nat} {v : Value} {xs : List α} {cs : Array Value} (h : Kd.S kd e W base (fun _ => True) v xs) (hb : W.heap[g]? = some (.cells cs t (0, 0))) (ht : ∀ q, q ∈ e :: kd.E → q ≠ t) (hk : KeepBut W W1 g none) : Kd.S kd e W1 base (fun _ => True) v xs :=
 Kd.S_mono (Kd.S_keep (Kd.S_types h hb ht) hk (fun _ hk => hk.2)) (fun _ _ => trivial)
def set6 (w : World) (g : Nat) (a b c d e f : Value) : World := (((((w.setCell ⟨g, 0, none⟩ a).setCell ⟨g, 1, none⟩ b).setCell ⟨g, 2, none⟩ c).setCell ⟨g, 3, none⟩ d).setCell ⟨g, 4, none⟩ e).setCell ⟨g, 5, none⟩ f
section
variable {w w0 : World} {g : Nat} {a b c d e f : Value}
theorem set6_keep (w : World) (g : Nat) (a b c d e f : Value) : KeepBut w (set6 w g a b c d e f) g none := ((((((KeepBut.refl _ _ _).set_ _ _).set_ _ _).set_ _ _).set_ _ _).set_ _ _).set_ _ _
theorem set6_blk (h : w.heap[g]? = some (.cells z6 47 (0, 0))) : (set6 w g a b c d e f).heap[g]? = some (.cells #[a, b, c, d, e, f] 47 (0, 0)) :=
 blk_put (blk_put (blk_put (blk_put (blk_put (blk_put h 0 _ rfl) 1 _ rfl) 2 _ rfl) 3 _ rfl) 4 _ rfl) 5 _ rfl
theorem set6_below (h : Below w0.heap.size w0 w) (hg : w0.heap.size ≤ g) : Below w0.heap.size w0 (set6 w g a b c d e f) := below_set (below_set (below_set (below_set (below_set (below_set h hg) hg) hg) hg) hg) hg
end
def InL (w w2 : World) (g : Nat) (a1 b1 d1 x1 t1 : Value) (vs : List (List Int)) (y : Value) (W : World) : Prop :=
 ∃ (i : Nat) (u : Value), y = .int .i64 (i : Int) ∧ i ≤ vs.length ∧ KeepBut w2 W g none ∧ W.heap[g]? = some (.cells #[a1, b1, d1, x1, t1, u] 47 (0, 0)) ∧ Kd.S (Kd.slice 57 (Kd.int .i8)) 33 W w2.heap.size (fun _ => True) u ((vs.take i).map pad) ∧ (u.ownBlock = none ∨ ∃ k, u.ownBlock = some k ∧ w2.heap.size ≤ k) ∧ Below w.heap.size w W
theorem rd_L3_get {vs : List (List Int)} {i : Nat} (h : i < vs.length) : vs[i]? = some (rd_L3 vs (i : Int)) := by
 unfold rd_L3; rw [Int.toNat_natCast, List.getD_eq_getElem?_getD, List.getElem?_eq_getElem h]; rfl
def in_T1 : Bool × List (List Nat × List Nat) := (true, [([], []), ([0], [0]), ([1], [1]), ([], []), ([3], [3]), ([4, 2], [4]), ([], []), ([6], [6]), ([7], [7]), ([8, 5], [8]), ([], []), ([10], [10]), ([11, 9], [11]), ([], []), ([13], [13]), ([14, 12], [14]), ([2, 5, 9, 12, 15], [2, 5, 9, 12, 15]), ([], []), ([17, 16, 15, 0, 1, 2, 3, 4, 5, 6, 7, 8, 9, 10, 11, 12, 13, 14, 15, 16, 17], [16, 17])])
theorem in_tab1 : rtab .any (opsOf Tryd.f12 1) = in_T1 := by kernel_rfl
theorem in_bits1 : waitsOk in_T1.2 [0, 1, 3, 0, 8, 31, 0, 64, 192, 511, 0, 1024, 4095, 0, 8192, 32767, 65535, 0, 262143] = true := by kernel_rfl
set_option maxHeartbeats 4000000 in
set_option maxRecDepth 100000 in
theorem in_calls {A B D X T V : Option Addr} {cA cB cD cX cT cV : Nat} {a b d x : List Int} {t : List S87} {vs : List (List Int)} (kd rw cl n : Int) (w : World) (hO : OpAt w A B D X T V cA cB cD cX cT cV a b d x t vs) :
  Calls Tryd.prog 12 #[.agg #[.int .i64 kd, .int .i64 rw, .int .i64 cl, .slice D d.length cD, .slice A a.length cA, .slice B b.length cB, .slice X x.length cX, .slice V vs.length cV, .slice T t.length cT, .int .i64 n]] w fun e w' =>
   ∃ a1 b1 d1 x1 t1 v1 : Value, e = .returned (.agg #[a1, b1, d1, x1, t1, v1]) ∧ InR w' w.heap.size a1 b1 d1 x1 t1 v1 a b d x t vs ∧ Below w.heap.size w w' := by
 have hu39 := Tryd.underlying39
 have hu47 := Tryd.underlying47
 have HO := Lib.hid hO
 clear hO
 go_enter Tryd.func12, Tryd.ntmps12
 go_upto_region 1 with (fail)
 obtain ⟨G, hG⟩ : ∃ y, y = w.heap.size := ⟨_, rfl⟩
 obtain ⟨W, hW⟩ : ∃ y, y = ((w.alloc (.cells #[.int .i64 kd, .int .i64 rw, .int .i64 cl, .slice D d.length cD, .slice A a.length cA, .slice B b.length cB, .slice X x.length cX, .slice V vs.length cV, .slice T t.length cT, .int .i64 n] 39)).alloc (.cells z6 47)) := ⟨_, rfl⟩
 have hbx : W.heap[G]? = some (.cells (opBox A B D X T V cA cB cD cX cT cV a b d x t vs kd rw cl n) 39 (0, 0)) := by rw [hW, hG]; exact blk_alloc (blk_new _ _) _
 have hrs : W.heap[G + 1]? = some (.cells z6 47 (0, 0)) := by rw [hW, hG]; exact blk_new2 w _ _
 have hbl : Below w.heap.size w W := by rw [hW]; exact below_alloc (below_alloc (Below.refl _ _) _) _
 unfold z6 at hW
 rw [← hW, ← hG]
 clear hW
 obtain ⟨bx, hbxe⟩ : ∃ y, y = opBox A B D X T V cA cB cD cX cT cV a b d x t vs kd rw cl n := ⟨_, rfl⟩
 have F0 : InF w G (G + 1) bx a b d x t .nilIface .nilIface .nilIface .nilIface .nilIface 0 0 false W := ⟨by rw [hbxe]; exact hbx, hrs, hbl, fun h => absurd h (by decide), fun h => absurd h (by decide), fun h => absurd h (by decide), fun h => absurd h (by decide), fun h => absurd h (by decide), fun h => Bool.noConfusion h, fun h => absurd h (by decide), fun h => absurd h (by decide)⟩
 have HF0 := Lib.hid (F0.step (below_drew (Below.refl _ _)))
 have ca : ∀ (a1 b1 d1 x1 t1 : Value) (g j : Nat) (aq : Bool) (w1 : World), j = 0 → InF w G (G + 1) bx a b d x t a1 b1 d1 x1 t1 g j aq w1 → Calls Tryd.prog 25 #[.slice A a.length cA] w1 (fun e w' => ∃ v, e = .returned v ∧ InF w G (G + 1) bx a b d x t v b1 d1 x1 t1 g (j + 1) aq w') := fun a1 b1 d1 x1 t1 g j aq w1 hj h => (narrowed_calls w1 (Kd.C_below HO.out.hA h.bel) HO.out.lA HO.out.nA).mono (by
  subst hj
  rintro e w' ⟨v, rfl, hr, hb⟩
  exact ⟨v, rfl, { h.step hb with apB := fun hq => absurd hq (by decide), apD := fun hq => absurd hq (by decide), hA := fun _ => Kd.R_lower hr h.bel.size, hB := fun hq => absurd hq (by decide), hD := fun hq => absurd hq (by decide), hX := fun hq => absurd hq (by decide), hT := fun hq => absurd hq (by decide) }⟩)
 have cb : ∀ (a1 b1 d1 x1 t1 : Value) (g j : Nat) (aq : Bool) (w1 : World), j = 1 → InF w G (G + 1) bx a b d x t a1 b1 d1 x1 t1 g j aq w1 → Calls Tryd.prog 25 #[.slice B b.length cB] w1 (fun e w' => ∃ v, e = .returned v ∧ InF w G (G + 1) bx a b d x t a1 v d1 x1 t1 g (j + 1) aq w') := fun a1 b1 d1 x1 t1 g j aq w1 hj h => (narrowed_calls w1 (Kd.C_below HO.out.hB h.bel) HO.out.lB HO.out.nB).mono (by
  subst hj
  rintro e w' ⟨v, rfl, hr, hb⟩
  exact ⟨v, rfl, { h.step hb with apB := fun _ => apart_new (h.hA (by decide)) hr, apD := fun hq => absurd hq (by decide), hA := fun _ => Kd.R_below (h.hA (by decide)) hb, hB := fun _ => Kd.R_lower hr h.bel.size, hD := fun hq => absurd hq (by decide), hX := fun hq => absurd hq (by decide), hT := fun hq => absurd hq (by decide) }⟩)
 have cd : ∀ (a1 b1 d1 x1 t1 : Value) (g j : Nat) (aq : Bool) (w1 : World), j = 2 → InF w G (G + 1) bx a b d x t a1 b1 d1 x1 t1 g j aq w1 → Calls Tryd.prog 25 #[.slice D d.length cD] w1 (fun e w' => ∃ v, e = .returned v ∧ InF w G (G + 1) bx a b d x t a1 b1 v x1 t1 g (j + 1) aq w') := fun a1 b1 d1 x1 t1 g j aq w1 hj h => (narrowed_calls w1 (Kd.C_below HO.out.hD h.bel) HO.out.lD HO.out.nD).mono (by
  subst hj
  rintro e w' ⟨v, rfl, hr, hb⟩
  exact ⟨v, rfl, { h.step hb with apB := fun _ => h.apB (by decide), apD := fun _ => ⟨apart_new (h.hA (by decide)) hr, apart_new (h.hB (by decide)) hr⟩, hA := fun _ => Kd.R_below (h.hA (by decide)) hb, hB := fun _ => Kd.R_below (h.hB (by decide)) hb, hD := fun _ => Kd.R_lower hr h.bel.size, hX := fun hq => absurd hq (by decide), hT := fun hq => absurd hq (by decide) }⟩)
 have cx : ∀ (a1 b1 d1 x1 t1 : Value) (g j : Nat) (aq : Bool) (w1 : World), j = 3 → InF w G (G + 1) bx a b d x t a1 b1 d1 x1 t1 g j aq w1 → Calls Tryd.prog 26 #[.slice X x.length cX] w1 (fun e w' => ∃ v, e = .returned v ∧ InF w G (G + 1) bx a b d x t a1 b1 d1 v t1 g (j + 1) aq w') := fun a1 b1 d1 x1 t1 g j aq w1 hj h => (widened_calls w1 (Kd.C_below HO.out.hX h.bel) HO.out.lX HO.out.nX).mono (by
  subst hj
  rintro e w' ⟨v, rfl, hr, hb⟩
  exact ⟨v, rfl, { h.step hb with apB := fun _ => h.apB (by decide), apD := fun _ => h.apD (by decide), hA := fun _ => Kd.R_below (h.hA (by decide)) hb, hB := fun _ => Kd.R_below (h.hB (by decide)) hb, hD := fun _ => Kd.R_below (h.hD (by decide)) hb, hX := fun _ => Kd.R_lower hr h.bel.size, hT := fun hq => absurd hq (by decide) }⟩)
 have ct : ∀ (a1 b1 d1 x1 t1 : Value) (g j : Nat) (aq : Bool) (w1 : World), j = 4 → InF w G (G + 1) bx a b d x t a1 b1 d1 x1 t1 g j aq w1 → Calls Tryd.prog 27 #[.slice T t.length cT] w1 (fun e w' => ∃ v, e = .returned v ∧ InF w G (G + 1) bx a b d x t a1 b1 d1 x1 v g (j + 1) aq w') := fun a1 b1 d1 x1 t1 g j aq w1 hj h => (turned_calls w1 (Kd.C_below HO.out.hT h.bel) HO.out.lT HO.out.nT).mono (by
  subst hj
  rintro e w' ⟨v, rfl, hr, hb⟩
  exact ⟨v, rfl, { h.step hb with apB := fun _ => h.apB (by decide), apD := fun _ => h.apD (by decide), hA := fun _ => Kd.R_below (h.hA (by decide)) hb, hB := fun _ => Kd.R_below (h.hB (by decide)) hb, hD := fun _ => Kd.R_below (h.hD (by decide)) hb, hX := fun _ => Kd.R_below (h.hX (by decide)) hb, hT := fun _ => Kd.R_lower hr h.bel.size }⟩)
 have HCA := Lib.hid ca
 have HCB := Lib.hid cb
 have HCD := Lib.hid cd
 have HCX := Lib.hid cx
 have HCT := Lib.hid ct
 have HG := Lib.hid hG
 have HBX := Lib.hid hbxe
 clear ca cb cd cx ct hbx hrs hbl F0 hG hbxe
 refine start_ (n := 19) (S := fun w' => w'.heap[G]? = some (.cells bx 39 (0, 0))) (ds := []) #[false, false, false, false, false, false, false, false, false, false, false, false, false, false, false, false, false, false, false] (by kernel_rfl) rfl rfl HF0.out.box (fun hHeld => ?_)
 refine with_tabW in_tab1 in_bits1 (fun HT_ HW_ => ?_)
 generalize W.drew = w9 at HF0 hHeld ⊢
 refine puT_ 0 6 ?_
 refine puT_ 3 9 ?_
 refine puT_ 6 12 ?_
 refine puT_ 7 13 ?_
 refine puT_ 10 16 ?_
 refine puT_ 13 19 ?_
 refine take_ (i := 1) (N := some 7) (v := ?_) (a' := ?_) #[true, true, false, true, false, false, true, true, false, false, true, false, false, true, false, false, false, false, false] rfl rfl (take_ofW HT_.out HW_.out (by kernel_rfl)) (fun _ _ _ h => h) (Or.inl ⟨by rfl, ?_⟩) hHeld ?_ ?_
 rotate_left
 ·intro w' hs
  have s0 : w'.cell? ⟨G, 4, none⟩ = some (.slice A a.length cA) := (blk_cell hs 4).trans (by rw [HBX.out]; rfl)
  go_simp
  with_reducible rfl
 rotate_left
 ·simp only [Act.put, List.setIfInBounds_toArray, List.set_cons_zero, List.set_cons_succ]
  rfl
 refine take_ (i := 4) (N := some 10) (v := ?_) (a' := ?_) #[true, true, false, true, true, false, true, true, false, false, true, false, false, true, false, false, false, false, false] rfl rfl (take_ofW HT_.out HW_.out (by kernel_rfl)) (fun _ _ _ h => h) (Or.inl ⟨by rfl, ?_⟩) hHeld ?_ ?_
 rotate_left
 ·intro w' hs
  have s0 : w'.cell? ⟨G, 5, none⟩ = some (.slice B b.length cB) := (blk_cell hs 5).trans (by rw [HBX.out]; rfl)
  go_simp
  with_reducible rfl
 rotate_left
 ·simp only [Act.put, List.setIfInBounds_toArray, List.set_cons_zero, List.set_cons_succ]
  rfl
 refine take_ (i := 8) (N := some 14) (v := ?_) (a' := ?_) #[true, true, false, true, true, false, true, true, true, false, true, false, false, true, false, false, false, false, false] rfl rfl (take_ofW HT_.out HW_.out (by kernel_rfl)) (fun _ _ _ h => h) (Or.inl ⟨by rfl, ?_⟩) hHeld ?_ ?_
 rotate_left
 ·intro w' hs
  have s0 : w'.cell? ⟨G, 3, none⟩ = some (.slice D d.length cD) := (blk_cell hs 3).trans (by rw [HBX.out]; rfl)
  go_simp
  with_reducible rfl
 rotate_left
 ·simp only [Act.put, List.setIfInBounds_toArray, List.set_cons_zero, List.set_cons_succ]
  rfl
 refine take_ (i := 11) (N := some 17) (v := ?_) (a' := ?_) #[true, true, false, true, true, false, true, true, true, false, true, true, false, true, false, false, false, false, false] rfl rfl (take_ofW HT_.out HW_.out (by kernel_rfl)) (fun _ _ _ h => h) (Or.inl ⟨by rfl, ?_⟩) hHeld ?_ ?_
 rotate_left
 ·intro w' hs
  have s0 : w'.cell? ⟨G, 6, none⟩ = some (.slice X x.length cX) := (blk_cell hs 6).trans (by rw [HBX.out]; rfl)
  go_simp
  with_reducible rfl
 rotate_left
 ·simp only [Act.put, List.setIfInBounds_toArray, List.set_cons_zero, List.set_cons_succ]
  rfl
 refine take_ (i := 14) (N := some 20) (v := ?_) (a' := ?_) #[true, true, false, true, true, false, true, true, true, false, true, true, false, true, true, false, false, false, false] rfl rfl (take_ofW HT_.out HW_.out (by kernel_rfl)) (fun _ _ _ h => h) (Or.inl ⟨by rfl, ?_⟩) hHeld ?_ ?_
 rotate_left
 ·intro w' hs
  have s0 : w'.cell? ⟨G, 8, none⟩ = some (.slice T t.length cT) := (blk_cell hs 8).trans (by rw [HBX.out]; rfl)
  go_simp
  with_reducible rfl
 rotate_left
 ·simp only [Act.put, List.setIfInBounds_toArray, List.set_cons_zero, List.set_cons_succ]
  rfl
 refine join_ (σ := Value × Value × Value × Value × Value × Nat) 1 #[true, true, true, true, true, true, true, true, true, true, true, true, true, true, true, true, true, true, false] (fun s => [(8, s.1), (11, s.2.1), (15, s.2.2.1), (18, s.2.2.2.1), (21, s.2.2.2.2.1), (22, .agg #[s.1, s.2.1, s.2.2.1, s.2.2.2.1, s.2.2.2.2.1, .slice none 0 0]), (3, .pointer (some ⟨s.2.2.2.2.2, 0, none⟩))]) (fun s w' => InF w G (G + 1) bx a b d x t s.1 s.2.1 s.2.2.1 s.2.2.2.1 s.2.2.2.2.1 s.2.2.2.2.2 5 true w') ?_ ?_
 rotate_left
 intro hE
 refine join_ (σ := Value × Value × Value × Value × Value × Nat) 3 #[true, true, true, true, true, true, true, true, true, true, true, true, true, true, true, true, false, false, false] (fun s => [(8, s.1), (11, s.2.1), (15, s.2.2.1), (18, s.2.2.2.1), (21, s.2.2.2.2.1)]) (fun s w' => InF w G (G + 1) bx a b d x t s.1 s.2.1 s.2.2.1 s.2.2.2.1 s.2.2.2.2.1 s.2.2.2.2.2 5 false w') ?_ ?_
 rotate_left
 intro hN5
 refine join_ (σ := Value × Value × Value × Value × Value × Nat) 3 #[true, true, true, true, true, true, true, true, true, true, true, true, true, true, true, false, false, true, false] (fun s => [(8, s.1), (11, s.2.1), (15, s.2.2.1), (18, s.2.2.2.1), (3, .pointer (some ⟨s.2.2.2.2.2, 0, none⟩))]) (fun s w' => InF w G (G + 1) bx a b d x t s.1 s.2.1 s.2.2.1 s.2.2.2.1 s.2.2.2.2.1 s.2.2.2.2.2 4 true w') ?_ ?_
 rotate_left
 intro hY4
 refine join_ (σ := Value × Value × Value × Value × Value × Nat) 4 #[true, true, true, true, true, true, true, true, true, true, true, true, true, true, true, false, false, false, false] (fun s => [(8, s.1), (11, s.2.1), (15, s.2.2.1), (18, s.2.2.2.1)]) (fun s w' => InF w G (G + 1) bx a b d x t s.1 s.2.1 s.2.2.1 s.2.2.2.1 s.2.2.2.2.1 s.2.2.2.2.2 4 false w') ?_ ?_
 rotate_left
 intro hN4
 refine join_ (σ := Value × Value × Value × Value × Value × Nat) 4 #[true, true, true, true, true, true, true, true, true, true, true, true, false, true, true, false, false, true, false] (fun s => [(8, s.1), (11, s.2.1), (15, s.2.2.1), (3, .pointer (some ⟨s.2.2.2.2.2, 0, none⟩))]) (fun s w' => InF w G (G + 1) bx a b d x t s.1 s.2.1 s.2.2.1 s.2.2.2.1 s.2.2.2.2.1 s.2.2.2.2.2 3 true w') ?_ ?_
 rotate_left
 intro hY3
 refine join_ (σ := Value × Value × Value × Value × Value × Nat) 5 #[true, true, true, true, true, true, true, true, true, true, true, true, false, true, true, false, false, false, false] (fun s => [(8, s.1), (11, s.2.1), (15, s.2.2.1)]) (fun s w' => InF w G (G + 1) bx a b d x t s.1 s.2.1 s.2.2.1 s.2.2.2.1 s.2.2.2.2.1 s.2.2.2.2.2 3 false w') ?_ ?_
 rotate_left
 intro hN3
 refine join_ (σ := Value × Value × Value × Value × Value × Nat) 5 #[true, true, true, true, true, true, true, true, true, false, true, true, false, true, true, false, false, true, false] (fun s => [(8, s.1), (11, s.2.1), (3, .pointer (some ⟨s.2.2.2.2.2, 0, none⟩))]) (fun s w' => InF w G (G + 1) bx a b d x t s.1 s.2.1 s.2.2.1 s.2.2.2.1 s.2.2.2.2.1 s.2.2.2.2.2 2 true w') ?_ ?_
 rotate_left
 intro hY2
 refine join_ (σ := Value × Value × Value × Value × Value × Nat) 6 #[true, true, true, true, true, true, true, true, true, false, true, true, false, true, true, false, false, false, false] (fun s => [(8, s.1), (11, s.2.1)]) (fun s w' => InF w G (G + 1) bx a b d x t s.1 s.2.1 s.2.2.1 s.2.2.2.1 s.2.2.2.2.1 s.2.2.2.2.2 2 false w') ?_ ?_
 rotate_left
 intro hN2
 refine join_ (σ := Value × Value × Value × Value × Value × Nat) 6 #[true, true, true, true, true, false, true, true, true, false, true, true, false, true, true, false, false, true, false] (fun s => [(8, s.1), (3, .pointer (some ⟨s.2.2.2.2.2, 0, none⟩))]) (fun s w' => InF w G (G + 1) bx a b d x t s.1 s.2.1 s.2.2.1 s.2.2.2.1 s.2.2.2.2.1 s.2.2.2.2.2 1 true w') ?_ ?_
 rotate_left
 intro hY1
 refine join_ (σ := Value × Value × Value × Value × Value × Nat) 7 #[true, true, true, true, true, false, true, true, true, false, true, true, false, true, true, false, false, false, false] (fun s => [(8, s.1)]) (fun s w' => InF w G (G + 1) bx a b d x t s.1 s.2.1 s.2.2.1 s.2.2.2.1 s.2.2.2.2.1 s.2.2.2.2.2 1 false w') ?_ ?_
 rotate_left
 intro hN1
 refine join_ (σ := Value × Value × Value × Value × Value × Nat) 7 #[true, true, false, true, true, false, true, true, true, false, true, true, false, true, true, false, false, true, false] (fun s => [(3, .pointer (some ⟨s.2.2.2.2.2, 0, none⟩))]) (fun s w' => InF w G (G + 1) bx a b d x t s.1 s.2.1 s.2.2.1 s.2.2.2.1 s.2.2.2.2.1 s.2.2.2.2.2 0 true w') ?_ ?_
 rotate_left
 intro hY0
 ·obtain ⟨⟨a1, b1, d1, x1, t1, g1⟩, hF⟩ : ∃ s : Value × Value × Value × Value × Value × Nat, InF w G (G + 1) bx a b d x t s.1 s.2.1 s.2.2.1 s.2.2.2.1 s.2.2.2.2.1 s.2.2.2.2.2 0 false w9 := ⟨(.nilIface, .nilIface, .nilIface, .nilIface, .nilIface, 0), HF0.out⟩
  refine two_ (i := 2) (j := 17) (Ni := some 8) (Nj := some 3) #[true, true, true, true, true, false, true, true, true, false, true, true, false, true, true, false, false, false, false] #[true, true, false, true, true, false, true, true, true, false, true, true, false, true, true, false, false, true, false] rfl rfl rfl rfl (two_of HT_.out (by kernel_rfl)) (by decide) (by decide) (fun K hK => ?_) (fun K hK => ?_)
  ·
   refine gs_ Tryd.func25 #[.slice A a.length cA] ?_
   refine (HCA.out _ _ _ _ _ _ 0 false _ rfl hF).mono ?_
   rintro e w1 ⟨v, rfl, hF1⟩
   exact ⟨_, rfl, hK.out _ _ hF1.box (fun _ => norm_ pa_ (hN1 (v, b1, d1, x1, t1, g1) _ hF1))⟩
  ·
   refine box_step (by rfl) (N := 3) rfl (cs := z6) (t := 47) ?_ ?_
   ·first | (go_simp; done) | (go_simp; rfl)
   intro g hg w1 hbx hb
   exact hK.out _ _ (hF.alo hb hg hbx).box (fun _ => norm_ (by show Act.put _ (some 3) _ = _; simp only [putAll, Act.put, List.setIfInBounds_toArray, List.set_cons_zero, List.set_cons_succ]) (hY0 (a1, b1, d1, x1, t1, g) _ (hF.alo hb hg hbx)))
 ·rintro ⟨a1, b1, d1, x1, t1, g1⟩ w10 hF
  refine na_ ?_
  replace hF : InF w G (G + 1) bx a b d x t a1 b1 d1 x1 t1 g1 5 true w10 := hF
  obtain ⟨hg0, hg1, hg2⟩ := hF.hg rfl
  obtain ⟨Aa, ca, ea⟩ := Kd.R_slice (hF.hA (by decide))
  obtain ⟨Ab, cb, eb⟩ := Kd.R_slice (hF.hB (by decide))
  obtain ⟨Ad, cd, ed⟩ := Kd.R_slice (hF.hD (by decide))
  obtain ⟨Ax, cx, ex⟩ := Kd.R_slice (hF.hX (by decide))
  obtain ⟨At, ct, et⟩ := Kd.R_slice (hF.hT (by decide))
  have hs0 : w10.cell? ⟨g1, 0, none⟩ = some (.slice none 0 0) := (blk_cell hg0 0).trans rfl
  have hs1 : w10.cell? ⟨g1, 1, none⟩ = some (.slice none 0 0) := (blk_cell hg0 1).trans rfl
  have hs2 : w10.cell? ⟨g1, 2, none⟩ = some (.slice none 0 0) := (blk_cell hg0 2).trans rfl
  have hs3 : w10.cell? ⟨g1, 3, none⟩ = some (.slice none 0 0) := (blk_cell hg0 3).trans rfl
  have hs4 : w10.cell? ⟨g1, 4, none⟩ = some (.slice none 0 0) := (blk_cell hg0 4).trans rfl
  have hs5 : w10.cell? ⟨g1, 5, none⟩ = some (.slice none 0 0) := (blk_cell hg0 5).trans rfl
  have hr0 := blk_frozen hg0 0
  have hr1 := blk_frozen hg0 1
  have hr2 := blk_frozen hg0 2
  have hr3 := blk_frozen hg0 3
  have hr4 := blk_frozen hg0 4
  have hr5 := blk_frozen hg0 5
  have HF := Lib.hid hF
  have HG0 := Lib.hid hg0
  have HG1 := Lib.hid hg1
  have HG2 := Lib.hid hg2
  clear hF hg0 hg1 hg2 hHeld HF0
  refine onT_ 18 none (fun K hK => ?_)
  have HEA := Lib.hid ea
  have HEB := Lib.hid eb
  have HED := Lib.hid ed
  have HEX := Lib.hid ex
  have HET := Lib.hid et
  rw [ea, eb, ed, ex, et]
  clear ea eb ed ex et
  refine skip_ (w1 := ?_) (by rfl) rfl ?_ ?_
  rotate_left
  ·go_simp
   rfl
  clear hs0 hs1 hs2 hs3 hs4 hs5 hr0 hr1 hr2 hr3 hr4 hr5
  obtain ⟨w2, hw2⟩ : ∃ y, y = set6 w10 g1 (.slice Aa (pad a).length ca) (.slice Ab (pad b).length cb) (.slice Ad (pad d).length cd) (.slice Ax (pad x).length cx) (.slice At (padT t).length ct) (.slice none 0 0) := ⟨_, rfl⟩
  have hk2 : KeepBut w10 w2 g1 none := by rw [hw2]; exact set6_keep _ _ _ _ _ _ _ _
  have hg4 : w2.heap[g1]? = some (.cells #[.slice Aa (pad a).length ca, .slice Ab (pad b).length cb, .slice Ad (pad d).length cd, .slice Ax (pad x).length cx, .slice At (padT t).length ct, .slice none 0 0] 47 (0, 0)) := by
   rw [hw2]
   exact set6_blk HG0.out
  have hne : G + 1 ≠ g1 := Nat.ne_of_lt HG2.out
  have hne2 : G ≠ g1 := by have := HG2.out; omega
  have hbx2 : w2.heap[G]? = some (.cells bx 39 (0, 0)) := hk2.blk HF.out.box hne2 (by simp)
  have hrs2 : w2.heap[G + 1]? = some (.cells z6 47 (0, 0)) := hk2.blk HF.out.res hne (by simp)
  have hb2 : Below w.heap.size w w2 := by rw [hw2]; exact set6_below HF.out.bel HG1.out
  unfold set6 at hw2
  rw [← hw2]
  clear hw2
  have HA := Lib.hid (R_kb (HF.out.hA (by decide)) HG0.out (by decide) hk2)
  have HB := Lib.hid (R_kb (HF.out.hB (by decide)) HG0.out (by decide) hk2)
  have HD := Lib.hid (R_kb (HF.out.hD (by decide)) HG0.out (by decide) hk2)
  have HX := Lib.hid (R_kb (HF.out.hX (by decide)) HG0.out (by decide) hk2)
  have HT := Lib.hid (R_kb (HF.out.hT (by decide)) HG0.out (by decide) hk2)
  have HAP := Lib.hid (⟨HF.out.apB (by decide), HF.out.apD (by decide)⟩ : _ ∧ _)
  have HG4 := Lib.hid hg4
  have HNE := Lib.hid hne
  have HNE2 := Lib.hid hne2
  have HB2 := Lib.hid hb2
  have HBX2 := Lib.hid hbx2
  have HRS2 := Lib.hid hrs2
  refine hK.out _ _ hbx2 (fun hHeld => ?_)
  clear hK K hHeld hk2 hg4 hne hne2 hbx2 hrs2 hb2 HG0 HCA HCB HCD HCX HCT HF
  refine dnT_ ?_
  clear HT_ HW_
  go_wp2
  go_loopw [4] (fun y wr => InL w w2 g1 (.slice Aa (pad a).length ca) (.slice Ab (pad b).length cb) (.slice Ad (pad d).length cd) (.slice Ax (pad x).length cx) (.slice At (padT t).length ct) vs y wr) (fun y _ => vs.length - (intOf y).toNat)
  case atStart => exact ⟨0, _, rfl, by omega, KeepBut.refl _ _ _, HG4.out, Kd.S_nil _ _ _ _ _, .inl rfl, HB2.out⟩
  case round =>
   obtain ⟨i, u, rfl, hi, hk, hg, hS, hu, hB⟩ := hrel
   have hbx := hk.blk HBX2.out HNE2.out (by simp)
   rename World => wa
   have k7 : wa.cell? ⟨G, 7, none⟩ = some (.slice V vs.length cV) := (blk_cell hbx 7).trans (by rw [HBX.out]; rfl)
   have HK := Lib.hid hk
   have HS := Lib.hid hS
   have HU := Lib.hid hu
   have HB_ := Lib.hid hB
   have HGW := Lib.hid hg
   clear hk hS hu hB hg hbx
   by_cases hlt : i < vs.length
   ·have hlt' : decide ((i : Int) < (vs.length : Int)) = true := decide_eq_true (by omega)
    obtain ⟨ad, A0, c0, e1, q0, q1, q2⟩ := at_L3 (Kd.C_below HO.out.hV HB_.out) (i : Int) (by omega) (by omega)
    obtain ⟨r, hr⟩ : ∃ y, rd_L3 vs (i : Int) = y := ⟨_, rfl⟩
    rw [hr] at q0 q1 q2
    have hri : vs[i]? = some r := by rw [rd_L3_get hlt, hr]
    have hrl : r.length ≤ 16777216 := HO.out.nr r (List.mem_of_getElem? hri)
    rw [e1] at k7
    rw [Int.toNat_natCast] at q0
    have p1 : (0 : Int) ≤ (i : Int) := by omega
    have p2 : (i : Int) < (vs.length : Int) := by omega
    have Q1 := Lib.hid q1
    have Q2 := Lib.hid q2
    have HRI := Lib.hid hri
    have HRL := Lib.hid hrl
    have HI := Lib.hid hlt
    clear hr q1 q2 hri hrl hi hlt e1
    go_wp2_with fail
    refine (narrowed_calls wa Q2.out Q1.out HRL.out).mono ?_
    rintro e w4 ⟨v, rfl, hv, hb4⟩
    obtain ⟨Av, cv, ev⟩ := Kd.R_slice hv
    subst ev
    have hg4 := blk_below HGW.out hb4
    have k5 : w4.cell? ⟨g1, 5, none⟩ = some u := (blk_cell hg4 5).trans rfl
    have HV := Lib.hid hv
    have HB4 := Lib.hid hb4
    have HGX := Lib.hid hg4
    clear hv hb4 hg4 k7 q0 hlt' p1 p2
    go_wp2_with ((with_reducible refine gate_builtin (b := .append) (xs := #[.tmp 37, .tmp 39]) rfl ?_); at_builtin; refine Kd.S_append (Kd.slice 57 (Kd.int .i8)) (w0 := w4) w2.heap.size rfl (.tmp 37) (.tmp 39) 36 33 (.slice none 0 0) 24 rfl Tryd.underlying36 info33 rfl (by decide) (by omega) u ((vs.take i).map pad) (pad r) [.slice Av (pad r).length cv] (fun _ => True) (fun k_ => some k_ = (Value.slice Av (pad r).length cv).ownBlock) rfl rfl ?aP (fun k_ hk_ => ⟨trivial, fun e_ => absurd (Kd.S_lt HS.out k_ e_.symm) (Nat.not_lt.2 (Kd.R_base HV.out k_ hk_.symm))⟩) (fun _ _ => trivial) ?aO ?aB ?aS ?aL ?_; (case aP => exact Kd.M_row (Kd.R_mono (Kd.R_tight rfl (Kd.R_lower HV.out HK.out.1)) (fun _ h_ => h_))); (case aO => exact Kd.S_mono (Kd.S_elder' HS.out (Kd.R_base HV.out) HB4.out) (fun _ hk_ => ⟨hk_.1, fun e_ => hk_.2 e_⟩)); (case aB => exact Below.refl _ _); (case aS => exact Nat.le_trans HK.out.1 HB4.out.size); (case aL => have := HI.out; have := HO.out.nV; rw [List.length_map, List.length_take]; omega); intro v1 w5 hS5 hB5 hgr hat; replace hB5 := below_weaken (below_step HB_.out HB4.out) HB2.out.size hB5; have HS5 := Lib.hid hS5; have HB5 := Lib.hid hB5; have HGR := Lib.hid hgr; have HAT := Lib.hid hat; clear hS5 hB5 hgr hat k5; obtain ⟨Au, cu, eu⟩ := Kd.S_slice HS5.out; have HEU := Lib.hid eu; rw [eu]; clear eu; have hg5 := blk_grown HGX.out HGR.out (Kd.S_ne (Kd.S_below HS.out HB4.out) HGX.out (by decide)); have k5 := (blk_cell hg5 5).trans rfl; have r5 := blk_frozen hg5 5; have HG5 := Lib.hid hg5; clear hg5)
    have hw1 : wrap64 ((i : Int) + 1) = (i : Int) + 1 := by have := HI.out; have := HO.out.nV; unfold wrap64; omega
    rw [hw1]
    have hx1 : (vs.take i).map pad ++ [pad r] = (vs.take (i + 1)).map pad := by rw [← take_step HRI.out, List.map_append]; rfl
    have hlen : ((vs.take i).map pad ++ [pad r]).length = min i vs.length + 1 := by rw [List.length_append, List.length_map, List.length_take]; rfl
    have hS6 := Kd.S_set HS5.out HG5.out (by decide) 5 (.slice Au (min i vs.length + 1) cu)
    have hG6 := blk_put HG5.out 5 (.slice Au (min i vs.length + 1) cu) rfl
    have hu5 := HEU.out
    rw [hlen] at hu5
    rw [hu5, hx1] at hS6
    have hown : v1.ownBlock = none ∨ ∃ k, v1.ownBlock = some k ∧ w2.heap.size ≤ k := by
     rcases HAT.out with h | ⟨k, h1, h2⟩
     ·rw [h]; exact HU.out
     ·exact .inr ⟨k, h1, Nat.le_trans (Nat.le_trans HK.out.1 HB4.out.size) h2⟩
    have hkb : KeepBut w2 (w5.setCell ⟨g1, 5, none⟩ (.slice Au (min i vs.length + 1) cu)) g1 none := KeepBut.set_ ((HK.out.trans (KeepBut.of_below HB4.out _ none) (.inl rfl)).trans (KeepBut.of_grown HGR.out g1) (by rcases HU.out with h | h; exact .inl h; exact .inr h)) _ _
    go_roundw
    case rel => exact ⟨i + 1, _, by rw [Int.natCast_add]; rfl, HI.out, hkb, hG6, hS6, by rw [← hu5]; exact hown, below_set HB5.out (by have := HG1.out; omega)⟩
    case measure => have := HI.out; rw [show (i : Int) + 1 = ((i + 1 : Nat) : Int) from rfl]; simp only [intOf, Int.toNat_natCast]; omega
   ·have hlt' : decide ((i : Int) < (vs.length : Int)) = false := decide_eq_false (by omega)
    obtain rfl : i = vs.length := by omega
    clear hlt hi
    obtain ⟨Au, cu, eu⟩ := Kd.S_slice HS.out
    have hg2 := HGW.out
    rw [eu] at hg2
    have n0 : wa.cell? ⟨g1, 0, none⟩ = some (.slice Aa (pad a).length ca) := (blk_cell hg2 0).trans rfl
    have n1 : wa.cell? ⟨g1, 1, none⟩ = some (.slice Ab (pad b).length cb) := (blk_cell hg2 1).trans rfl
    have n2 : wa.cell? ⟨g1, 2, none⟩ = some (.slice Ad (pad d).length cd) := (blk_cell hg2 2).trans rfl
    have n3 : wa.cell? ⟨g1, 3, none⟩ = some (.slice Ax (pad x).length cx) := (blk_cell hg2 3).trans rfl
    have n4 : wa.cell? ⟨g1, 4, none⟩ = some (.slice At (padT t).length ct) := (blk_cell hg2 4).trans rfl
    have n5 : wa.cell? ⟨g1, 5, none⟩ = some (.slice Au ((vs.take vs.length).map pad).length cu) := (blk_cell hg2 5).trans rfl
    have HAw := Lib.hid (R_kb HA.out HG4.out (by decide) HK.out)
    have HBw := Lib.hid (R_kb HB.out HG4.out (by decide) HK.out)
    have HDw := Lib.hid (R_kb HD.out HG4.out (by decide) HK.out)
    have HXw := Lib.hid (R_kb HX.out HG4.out (by decide) HK.out)
    have HTw := Lib.hid (R_kb HT.out HG4.out (by decide) HK.out)
    have hrs := HK.out.blk HRS2.out HNE.out (by simp)
    have s0 : wa.cell? ⟨G + 1, 0, none⟩ = some (.slice none 0 0) := (blk_cell hrs 0).trans rfl
    have s1 : wa.cell? ⟨G + 1, 1, none⟩ = some (.slice none 0 0) := (blk_cell hrs 1).trans rfl
    have s2 : wa.cell? ⟨G + 1, 2, none⟩ = some (.slice none 0 0) := (blk_cell hrs 2).trans rfl
    have s3 : wa.cell? ⟨G + 1, 3, none⟩ = some (.slice none 0 0) := (blk_cell hrs 3).trans rfl
    have s4 : wa.cell? ⟨G + 1, 4, none⟩ = some (.slice none 0 0) := (blk_cell hrs 4).trans rfl
    have s5 : wa.cell? ⟨G + 1, 5, none⟩ = some (.slice none 0 0) := (blk_cell hrs 5).trans rfl
    have f0 := blk_frozen hrs 0
    have f1 := blk_frozen hrs 1
    have f2 := blk_frozen hrs 2
    have f3 := blk_frozen hrs 3
    have f4 := blk_frozen hrs 4
    have f5 := blk_frozen hrs 5
    have HEU := Lib.hid eu
    have HRS := Lib.hid hrs
    clear hrs eu hg2
    go_wp2
    clear n0 n1 n2 n3 n4 n5 s0 s1 s2 s3 s4 s5 f0 f1 f2 f3 f4 f5 k7
    obtain ⟨w3, hw3⟩ : ∃ y, y = set6 wa (G + 1) (.slice Aa (pad a).length ca) (.slice Ab (pad b).length cb) (.slice Ad (pad d).length cd) (.slice Ax (pad x).length cx) (.slice At (padT t).length ct) (.slice Au vs.length cu) := ⟨_, rfl⟩
    have hk3 : KeepBut wa w3 (G + 1) none := by rw [hw3]; exact set6_keep _ _ _ _ _ _ _ _
    have hg3 : w3.heap[G + 1]? = some (.cells #[.slice Aa (pad a).length ca, .slice Ab (pad b).length cb, .slice Ad (pad d).length cd, .slice Ax (pad x).length cx, .slice At (padT t).length ct, .slice Au vs.length cu] 47 (0, 0)) := by
     rw [hw3]
     exact set6_blk HRS.out
    have hb3 : Below w.heap.size w w3 := by rw [hw3]; exact set6_below HB_.out (by have := HG.out; omega)
    unfold set6 at hw3
    rw [← hw3]
    refine bodyPost_ret (results_cell_row rfl _ _ (G + 1) 47 #[.slice Aa (pad a).length ca, .slice Ab (pad b).length cb, .slice Ad (pad d).length cd, .slice Ax (pad x).length cx, .slice At (padT t).length ct, .slice Au vs.length cu] (0, 0) _ rfl hg3 Tryd.underlying47 rfl (by kernel_rfl)) rfl ?_
    have hS3 := S_kb HS.out HRS.out (by decide) hk3
    rw [HEU.out, List.take_length, List.length_map] at hS3
    exact ⟨_, _, _, _, _, _, rfl, ⟨HEA.out ▸ R_kb HAw.out HRS.out (by decide) hk3, HEB.out ▸ R_kb HBw.out HRS.out (by decide) hk3, HED.out ▸ R_kb HDw.out HRS.out (by decide) hk3, HEX.out ▸ R_kb HXw.out HRS.out (by decide) hk3, HET.out ▸ R_kb HTw.out HRS.out (by decide) hk3, Kd.S_lower hS3 HB2.out.size, HEA.out ▸ HEB.out ▸ HAP.out.1, HEA.out ▸ HEB.out ▸ HED.out ▸ HAP.out.2, w2.heap.size, (fun k hk => by
     rcases hk with h | h | h
     ·exact Kd.R_lt HA.out k (HEA.out ▸ h)
     ·exact Kd.R_lt HB.out k (HEB.out ▸ h)
     ·exact Kd.R_lt HD.out k (HED.out ▸ h)), hS3⟩, hb3⟩
 ·rintro ⟨a1, b1, d1, x1, t1, g1⟩ w10 hF
  refine na_ ?_
  replace hF : InF w G (G + 1) bx a b d x t a1 b1 d1 x1 t1 g1 5 false w10 := hF
  obtain ⟨Aa, ca, ea⟩ := Kd.R_slice (hF.hA (by decide))
  obtain ⟨Ab, cb, eb⟩ := Kd.R_slice (hF.hB (by decide))
  obtain ⟨Ad, cd, ed⟩ := Kd.R_slice (hF.hD (by decide))
  obtain ⟨Ax, cx, ex⟩ := Kd.R_slice (hF.hX (by decide))
  obtain ⟨At, ct, et⟩ := Kd.R_slice (hF.hT (by decide))
  subst ea eb ed ex et
  refine puT_ 16 22 ?_
  refine onT_ 17 (some 3) (fun K hK => ?_)
  refine box_step (by rfl) (N := 3) rfl (cs := z6) (t := 47) ?_ ?_
  ·first | (go_simp; done) | (go_simp; rfl)
  intro g hg w1 hbx hb
  exact hK.out _ _ (hF.alo hb hg hbx).box (fun _ => norm_ (by show Act.put _ (some 3) _ = _; simp only [putAll, Act.put, List.setIfInBounds_toArray, List.set_cons_zero, List.set_cons_succ]) (hE (_, _, _, _, _, g) _ (hF.alo hb hg hbx)))
 ·rintro ⟨a1, b1, d1, x1, t1, g1⟩ w10 hF
  refine na_ ?_
  replace hF : InF w G (G + 1) bx a b d x t a1 b1 d1 x1 t1 g1 4 true w10 := hF
  refine onT_ 15 (some 21) (fun K hK => ?_)
  refine gs_ Tryd.func27 #[.slice T t.length cT] ?_
  refine (HCT.out _ _ _ _ _ _ 4 true _ rfl hF).mono ?_
  rintro e w1 ⟨v, rfl, hF1⟩
  refine ⟨_, rfl, hK.out _ _ hF1.box (fun _ => ?_)⟩
  clear hK K hF
  obtain ⟨Aa, ca, ea⟩ := Kd.R_slice (hF1.hA (by decide))
  obtain ⟨Ab, cb, eb⟩ := Kd.R_slice (hF1.hB (by decide))
  obtain ⟨Ad, cd, ed⟩ := Kd.R_slice (hF1.hD (by decide))
  obtain ⟨Ax, cx, ex⟩ := Kd.R_slice (hF1.hX (by decide))
  obtain ⟨At, ct, et⟩ := Kd.R_slice (hF1.hT (by decide))
  subst ea eb ed ex et
  refine puT_ 16 22 ?_
  exact norm_ pa_ (hE (_, _, _, _, _, g1) _ hF1)
 ·rintro ⟨a1, b1, d1, x1, t1, g1⟩ w10 hF
  refine na_ ?_
  replace hF : InF w G (G + 1) bx a b d x t a1 b1 d1 x1 t1 g1 4 false w10 := hF
  refine two_ (i := 15) (j := 17) (Ni := some 21) (Nj := some 3) #[true, true, true, true, true, true, true, true, true, true, true, true, true, true, true, true, false, false, false] #[true, true, true, true, true, true, true, true, true, true, true, true, true, true, true, false, false, true, false] rfl rfl rfl rfl (two_of HT_.out (by kernel_rfl)) (by decide) (by decide) (fun K hK => ?_) (fun K hK => ?_)
  ·
   refine gs_ Tryd.func27 #[.slice T t.length cT] ?_
   refine (HCT.out _ _ _ _ _ _ 4 false _ rfl hF).mono ?_
   rintro e w1 ⟨v, rfl, hF1⟩
   exact ⟨_, rfl, hK.out _ _ hF1.box (fun _ => norm_ pa_ (hN5 (a1, b1, d1, x1, v, g1) _ hF1))⟩
  ·
   refine box_step (by rfl) (N := 3) rfl (cs := z6) (t := 47) ?_ ?_
   ·first | (go_simp; done) | (go_simp; rfl)
   intro g hg w1 hbx hb
   exact hK.out _ _ (hF.alo hb hg hbx).box (fun _ => norm_ (by show Act.put _ (some 3) _ = _; simp only [putAll, Act.put, List.setIfInBounds_toArray, List.set_cons_zero, List.set_cons_succ]) (hY4 (a1, b1, d1, x1, t1, g) _ (hF.alo hb hg hbx)))
 ·rintro ⟨a1, b1, d1, x1, t1, g1⟩ w10 hF
  refine na_ ?_
  replace hF : InF w G (G + 1) bx a b d x t a1 b1 d1 x1 t1 g1 3 true w10 := hF
  refine onT_ 12 (some 18) (fun K hK => ?_)
  refine gs_ Tryd.func26 #[.slice X x.length cX] ?_
  refine (HCX.out _ _ _ _ _ _ 3 true _ rfl hF).mono ?_
  rintro e w1 ⟨v, rfl, hF1⟩
  exact ⟨_, rfl, hK.out _ _ hF1.box (fun _ => norm_ pa_ (hY4 (a1, b1, d1, v, t1, g1) _ hF1))⟩
 ·rintro ⟨a1, b1, d1, x1, t1, g1⟩ w10 hF
  refine na_ ?_
  replace hF : InF w G (G + 1) bx a b d x t a1 b1 d1 x1 t1 g1 3 false w10 := hF
  refine two_ (i := 12) (j := 17) (Ni := some 18) (Nj := some 3) #[true, true, true, true, true, true, true, true, true, true, true, true, true, true, true, false, false, false, false] #[true, true, true, true, true, true, true, true, true, true, true, true, false, true, true, false, false, true, false] rfl rfl rfl rfl (two_of HT_.out (by kernel_rfl)) (by decide) (by decide) (fun K hK => ?_) (fun K hK => ?_)
  ·
   refine gs_ Tryd.func26 #[.slice X x.length cX] ?_
   refine (HCX.out _ _ _ _ _ _ 3 false _ rfl hF).mono ?_
   rintro e w1 ⟨v, rfl, hF1⟩
   exact ⟨_, rfl, hK.out _ _ hF1.box (fun _ => norm_ pa_ (hN4 (a1, b1, d1, v, t1, g1) _ hF1))⟩
  ·
   refine box_step (by rfl) (N := 3) rfl (cs := z6) (t := 47) ?_ ?_
   ·first | (go_simp; done) | (go_simp; rfl)
   intro g hg w1 hbx hb
   exact hK.out _ _ (hF.alo hb hg hbx).box (fun _ => norm_ (by show Act.put _ (some 3) _ = _; simp only [putAll, Act.put, List.setIfInBounds_toArray, List.set_cons_zero, List.set_cons_succ]) (hY3 (a1, b1, d1, x1, t1, g) _ (hF.alo hb hg hbx)))
 ·rintro ⟨a1, b1, d1, x1, t1, g1⟩ w10 hF
  refine na_ ?_
  replace hF : InF w G (G + 1) bx a b d x t a1 b1 d1 x1 t1 g1 2 true w10 := hF
  refine onT_ 9 (some 15) (fun K hK => ?_)
  refine gs_ Tryd.func25 #[.slice D d.length cD] ?_
  refine (HCD.out _ _ _ _ _ _ 2 true _ rfl hF).mono ?_
  rintro e w1 ⟨v, rfl, hF1⟩
  exact ⟨_, rfl, hK.out _ _ hF1.box (fun _ => norm_ pa_ (hY3 (a1, b1, v, x1, t1, g1) _ hF1))⟩
 ·rintro ⟨a1, b1, d1, x1, t1, g1⟩ w10 hF
  refine na_ ?_
  replace hF : InF w G (G + 1) bx a b d x t a1 b1 d1 x1 t1 g1 2 false w10 := hF
  refine two_ (i := 9) (j := 17) (Ni := some 15) (Nj := some 3) #[true, true, true, true, true, true, true, true, true, true, true, true, false, true, true, false, false, false, false] #[true, true, true, true, true, true, true, true, true, false, true, true, false, true, true, false, false, true, false] rfl rfl rfl rfl (two_of HT_.out (by kernel_rfl)) (by decide) (by decide) (fun K hK => ?_) (fun K hK => ?_)
  ·
   refine gs_ Tryd.func25 #[.slice D d.length cD] ?_
   refine (HCD.out _ _ _ _ _ _ 2 false _ rfl hF).mono ?_
   rintro e w1 ⟨v, rfl, hF1⟩
   exact ⟨_, rfl, hK.out _ _ hF1.box (fun _ => norm_ pa_ (hN3 (a1, b1, v, x1, t1, g1) _ hF1))⟩
  ·
   refine box_step (by rfl) (N := 3) rfl (cs := z6) (t := 47) ?_ ?_
   ·first | (go_simp; done) | (go_simp; rfl)
   intro g hg w1 hbx hb
   exact hK.out _ _ (hF.alo hb hg hbx).box (fun _ => norm_ (by show Act.put _ (some 3) _ = _; simp only [putAll, Act.put, List.setIfInBounds_toArray, List.set_cons_zero, List.set_cons_succ]) (hY2 (a1, b1, d1, x1, t1, g) _ (hF.alo hb hg hbx)))
 ·rintro ⟨a1, b1, d1, x1, t1, g1⟩ w10 hF
  refine na_ ?_
  replace hF : InF w G (G + 1) bx a b d x t a1 b1 d1 x1 t1 g1 1 true w10 := hF
  refine onT_ 5 (some 11) (fun K hK => ?_)
  refine gs_ Tryd.func25 #[.slice B b.length cB] ?_
  refine (HCB.out _ _ _ _ _ _ 1 true _ rfl hF).mono ?_
  rintro e w1 ⟨v, rfl, hF1⟩
  exact ⟨_, rfl, hK.out _ _ hF1.box (fun _ => norm_ pa_ (hY2 (a1, v, d1, x1, t1, g1) _ hF1))⟩
 ·rintro ⟨a1, b1, d1, x1, t1, g1⟩ w10 hF
  refine na_ ?_
  replace hF : InF w G (G + 1) bx a b d x t a1 b1 d1 x1 t1 g1 1 false w10 := hF
  refine two_ (i := 5) (j := 17) (Ni := some 11) (Nj := some 3) #[true, true, true, true, true, true, true, true, true, false, true, true, false, true, true, false, false, false, false] #[true, true, true, true, true, false, true, true, true, false, true, true, false, true, true, false, false, true, false] rfl rfl rfl rfl (two_of HT_.out (by kernel_rfl)) (by decide) (by decide) (fun K hK => ?_) (fun K hK => ?_)
  ·
   refine gs_ Tryd.func25 #[.slice B b.length cB] ?_
   refine (HCB.out _ _ _ _ _ _ 1 false _ rfl hF).mono ?_
   rintro e w1 ⟨v, rfl, hF1⟩
   exact ⟨_, rfl, hK.out _ _ hF1.box (fun _ => norm_ pa_ (hN2 (a1, v, d1, x1, t1, g1) _ hF1))⟩
  ·
   refine box_step (by rfl) (N := 3) rfl (cs := z6) (t := 47) ?_ ?_
   ·first | (go_simp; done) | (go_simp; rfl)
   intro g hg w1 hbx hb
   exact hK.out _ _ (hF.alo hb hg hbx).box (fun _ => norm_ (by show Act.put _ (some 3) _ = _; simp only [putAll, Act.put, List.setIfInBounds_toArray, List.set_cons_zero, List.set_cons_succ]) (hY1 (a1, b1, d1, x1, t1, g) _ (hF.alo hb hg hbx)))
 ·rintro ⟨a1, b1, d1, x1, t1, g1⟩ w10 hF
  refine na_ ?_
  replace hF : InF w G (G + 1) bx a b d x t a1 b1 d1 x1 t1 g1 0 true w10 := hF
  refine onT_ 2 (some 8) (fun K hK => ?_)
  refine gs_ Tryd.func25 #[.slice A a.length cA] ?_
  refine (HCA.out _ _ _ _ _ _ 0 true _ rfl hF).mono ?_
  rintro e w1 ⟨v, rfl, hF1⟩
  exact ⟨_, rfl, hK.out _ _ hF1.box (fun _ => norm_ pa_ (hY1 (v, b1, d1, x1, t1, g1) _ hF1))⟩
end Wk
end Go.Proofs.YtnioohhiphpplaaDoor.Dp
