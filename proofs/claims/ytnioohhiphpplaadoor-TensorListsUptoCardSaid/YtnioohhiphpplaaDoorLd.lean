/- The walk of Book.wide. -/
import Derived.Test.YtnioohhiphpplaaDoorLc
import Derived.Test.YtnioohhiphpplaaDoorSq
set_option linter.unusedVariables false
set_option linter.unusedSimpArgs false
namespace Go.Proofs.YtnioohhiphpplaaDoor.Dp
open Go.RowKit Go.Proofs.YtnioohhiphpplaaDoor.Pplays Go.Proofs.YtnioohhiphpplaaDoorW.PrintWords Go.Proofs.YtnioohhiphpplaaDoorW.PrintLast Go.Proofs.YtnioohhiphpplaaDoorW.PrintMore Go.Proofs.YtnioohhiphpplaaDoor.M Go.Proofs.YtnioohhiphpplaaDoor.Wk Go.Lib
namespace Wk
theorem linfo22 : (Tryd.prog.info? 22).map (fun i => (i.zero, i.size, i.bytes)) = some (some (.slice none 0 0), 1, 24) := by kernel_rfl
theorem linfo2 : (Tryd.prog.info? 2).map (fun i => (i.zero, i.size, i.bytes)) = some (some (.int .i64 0), 1, 8) := by kernel_rfl
def bkc (N M Wv X T U : Value) (last : Int) : Array Value := #[N, M, Wv, X, T, U, .int .i64 last]
def WiS (GB : Nat) (Wv X l : Value) (k : Nat) : Prop := k = GB ∨ Wv.ownBlock = some k ∨ X.ownBlock = some k ∨ l.ownBlock = some k
def Wi1 (w : World) (GB : Nat) (N M Wv X T U l : Value) (fW fX : List Tr) (xW : List (List Int)) (L : Int) (xs : List Int) (y : Value) (W : World) : Prop :=
 ∃ i : Nat, y = .int .i64 (i : Int) ∧ i ≤ xs.length ∧ W.heap[GB]? = some (.cells (bkc N M Wv X T U L) 45 (0, 0)) ∧ Pr (Kd.int .i64) 22 2 W Wv X fW fX xW xW ∧ Row (Kd.int .i64) 2 W l (tb (overF (fun _ => L) (nth xs) i) xs.length) ∧ Fr w W (WiS GB Wv X l)
theorem Pr.size {α : Type} {kd : Kd α} {eo ei : Nat} {W : World} {N M : Value} {fN fM : List Tr} {xN xM : List (List α)} (h : Pr kd eo ei W N M fN fM xN xM) : ∀ u ∈ fN.map sl ++ fM.map sl, ∀ k, u.ownBlock = some k → k < W.heap.size := fun u hu => (List.mem_append.1 hu).elim (h.cN.lt u) (h.cM.lt u)
theorem blk_g {W W1 : World} {g : Nat} {o : Obj} {row : Option Nat} (h : W.heap[g]? = some o) (hg : W.grownBy W1 row) (hne : row ≠ some g) : W1.heap[g]? = some o := blk_grown h hg (fun he => hne he.symm)
theorem out_ne {W : World} {GB e t : Nat} {cells : Array Value} {α : Type} {kd : Kd α} {v : Value} {xs : List α} (h : Row kd e W v xs) (hb : W.heap[GB]? = some (.cells cells t (0, 0))) (hne : e ≠ t) : v.ownBlock ≠ some GB := fun he => by
 obtain ⟨c, hc⟩ := h.typed GB he
 exact hne (typed_ne hc hb)
theorem tb_nthx (xs : List Int) : tb (nth xs) xs.length = xs := by
 refine List.ext_getElem? fun i => ?_
 unfold tb
 rcases Nat.lt_or_ge i xs.length with h | h
 ·rw [List.getElem?_map, List.getElem?_range h, nth_get h]; rfl
 ·rw [List.getElem?_eq_none (by rw [List.length_map, List.length_range]; exact h), List.getElem?_eq_none h]
theorem copyN_calls {A : Option Addr} {l : List Int} {c : Nat} (w : World) (h : Kd.C (Kd.int .i8) w A l.length l) (hc : l.length ≤ c) (hl : l.length ≤ 16777216) :
  Calls Tryd.prog 41 #[.slice A l.length c] w fun e w' => ∃ v, e = .returned v ∧ Kd.R (Kd.int .i8) 57 w' w.heap.size (fun _ => True) v l ∧ Below w.heap.size w w' :=
 augurref00_CopyNarrow.calls (l.length + 1) A c l _ w h hc (copyN_l0 hl l.length (l.length + 1) 0 (by omega) (by omega))
theorem copyW_calls {A : Option Addr} {l : List Int} {c : Nat} (w : World) (h : Kd.C (Kd.int .i64) w A l.length l) (hc : l.length ≤ c) (hl : l.length ≤ 16777216) :
  Calls Tryd.prog 42 #[.slice A l.length c] w fun e w' => ∃ v, e = .returned v ∧ Kd.R (Kd.int .i64) 2 w' w.heap.size (fun _ => True) v l ∧ Below w.heap.size w w' :=
 augurref00_CopyWide.calls (l.length + 1) A c l _ w h hc (copyW_l0 hl l.length (l.length + 1) 0 (by omega) (by omega))
theorem copyT_calls {A : Option Addr} {l : List S87} {c : Nat} (w : World) (h : Kd.C k87 w A l.length l) (hc : l.length ≤ c) (hl : l.length ≤ 16777216) :
  Calls Tryd.prog 43 #[.slice A l.length c] w fun e w' => ∃ v, e = .returned v ∧ Kd.R k87 87 w' w.heap.size (fun _ => True) v l ∧ Below w.heap.size w w' :=
 augurref00_CopyTurns.calls (l.length + 1) A c l _ w h hc (copyT_l0 hl l.length (l.length + 1) 0 (by omega) (by omega))
structure OutR {α : Type} (kd : Kd α) (ei GB : Nat) (W w1 w2 : World) (rb : Option Nat) (cs cs' : Array Value) : Prop where
 mid : w1.heap[GB]? = some (.cells cs 45 (0, 0))
 blk : w2.heap[GB]? = some (.cells cs' 45 (0, 0))
 rows : ∀ {v : Value} {zs : List α}, Row kd ei W v zs → Row kd ei w2 v zs
 fr : ∀ {w : World} {S : Nat → Prop}, Fr w W S → S GB → (∀ k, rb = some k → S k ∨ w.heap.size ≤ k) → Fr w w2 S
 size : W.heap.size ≤ w2.heap.size
section
variable {α : Type} {kd : Kd α} {eo ei GB j : Nat} {W w1 : World} {N M v1 : Value} {fN fM : List Tr} {xN xM : List (List α)} {f : Tr} {xs : List α} {cs cs' : Array Value}
theorem out_row (hE : kd.E = []) (hne : eo ≠ ei) (ho : eo ≠ 45) (hi : ei ≠ 45) (hb : W.heap[GB]? = some (.cells cs 45 (0, 0))) (hset : cs.setIfInBounds j v1 = cs') (hN : Row slKd eo W N fN) (hg : W.grownBy w1 N.ownBlock) : OutR kd ei GB W w1 (w1.setCell ⟨GB, j, none⟩ v1) N.ownBlock cs cs' := by
 have hm := blk_g hb hg (out_ne hN hb ho)
 refine ⟨hm, blk_put hm j v1 hset, fun {v zs} h => ?_, fun {w S} h h1 h2 => ?_, Nat.le_trans hg.size (grownBy_set w1 ⟨GB, j, none⟩ v1).size⟩
 ·have h1 := h.grown hE hg fun k hk he => by
   obtain ⟨c, hc⟩ := hN.typed k he
   obtain ⟨c', hc'⟩ := h.typed k hk
   exact hne (typed_ne hc hc')
  exact h1.grown hE (grownBy_set w1 ⟨GB, j, none⟩ v1) fun k hk he => by
   cases he
   exact out_ne h1 hm hi hk
 ·exact (h.grown hg h2).grown (grownBy_set w1 ⟨GB, j, none⟩ v1) fun k hk => by cases hk; exact .inl h1
theorem out_N (hE : kd.E = []) (hne : eo ≠ ei) (ho : eo ≠ 45) (hi : ei ≠ 45) (hb : W.heap[GB]? = some (.cells cs 45 (0, 0))) (hset : cs.setIfInBounds j v1 = cs') (hP : Pr kd eo ei W N M fN fM xN xM) (hr : Row kd ei W (sl f) xs) (hg : W.grownBy w1 N.ownBlock) (hx : Ext W w1 N v1) (h1 : Row slKd eo w1 v1 (fN ++ [f])) :
  OutR kd ei GB W w1 (w1.setCell ⟨GB, j, none⟩ v1) N.ownBlock cs cs' ∧ Pr kd eo ei (w1.setCell ⟨GB, j, none⟩ v1) v1 M (fN ++ [f]) fM (xN ++ [xs]) xM := by
 have h := out_row (kd := kd) hE hne ho hi hb hset hP.cN.out hg
 exact ⟨h, (hP.appN hE hne hg hx h1 hr).other hE (grownBy_set w1 ⟨GB, j, none⟩ v1) (t := 45) (fun k hk => by cases hk; exact ⟨_, h.mid⟩) (Ne.symm ho) (Ne.symm hi)⟩
theorem out_M (hE : kd.E = []) (hne : eo ≠ ei) (ho : eo ≠ 45) (hi : ei ≠ 45) (hb : W.heap[GB]? = some (.cells cs 45 (0, 0))) (hset : cs.setIfInBounds j v1 = cs') (hP : Pr kd eo ei W N M fN fM xN xM) (hr : Row kd ei W (sl f) xs) (hg : W.grownBy w1 M.ownBlock) (hx : Ext W w1 M v1) (h1 : Row slKd eo w1 v1 (fM ++ [f])) :
  OutR kd ei GB W w1 (w1.setCell ⟨GB, j, none⟩ v1) M.ownBlock cs cs' ∧ Pr kd eo ei (w1.setCell ⟨GB, j, none⟩ v1) N v1 fN (fM ++ [f]) xN (xM ++ [xs]) := by
 have h := out_row (kd := kd) hE hne ho hi hb hset hP.cM.out hg
 exact ⟨h, (hP.appM hE hne hg hx h1 hr).other hE (grownBy_set w1 ⟨GB, j, none⟩ v1) (t := 45) (fun k hk => by cases hk; exact ⟨_, h.mid⟩) (Ne.symm ho) (Ne.symm hi)⟩
end
structure G2 {α : Type} (kd : Kd α) (eo ei : Nat) (w : World) (GB : Nat) (cs : Array Value) (S : Nat → Prop) (N M : Value) (fN fM : List Tr) (f f4 : Tr) (xN xM : List (List α)) (y1 zg zm : List α) (g m : Value) (W : World) : Prop where
 blk : W.heap[GB]? = some (.cells cs 45 (0, 0))
 pr : Pr kd eo ei W N M (fN ++ [f]) (fM ++ [f4]) (xN ++ [y1]) (xM ++ [y1])
 len : fN.length = xN.length
 rg : Row kd ei W g (y1 ++ zg)
 rm : Row kd ei W m (y1 ++ zm)
 rl : Row kd ei W (sl f) y1
 pf : Pref g (sl f)
 ag : Ap W g (fN.map sl ++ (fM ++ [f4]).map sl)
 am : Ap W m ((fN ++ [f]).map sl ++ (fM ++ [f4]).map sl)
 gm : Ap W g [m]
 mg : Ap W m [g]
 fr : Fr w W S
 gs : ∀ k, g.ownBlock = some k → S k ∨ w.heap.size ≤ k
 ms : ∀ k, m.ownBlock = some k → S k ∨ w.heap.size ≤ k
section
variable {α : Type} {kd : Kd α} {eo ei GB : Nat} {w W w1 : World} {cs : Array Value} {S : Nat → Prop} {N M g m v1 : Value} {fN fM : List Tr} {f f4 : Tr} {xN xM : List (List α)} {y1 zg zm : List α} {p : α}
theorem Ap.back {kd : Kd α} {zs : List α} {e : Nat} (h : Ap W m [g]) (hx : Ext W w1 g v1) (hs : W.heap.size ≤ w1.heap.size) (hm : Row kd e W m zs) (hv : ∀ k, v1.ownBlock = some k → k < w1.heap.size) : Ap w1 m [v1] := Ap.one fun k hk => ⟨hv k hk, fun he => by
 rcases hx.own with ho | ⟨b, hb, hle⟩
 ·exact (h g (List.mem_singleton.2 rfl) k (ho ▸ hk)).2 he
 ·rw [hb] at hk
  injection hk with hk
  have := Kd.R_lt hm k he
  omega⟩
theorem own_in {B : Nat} (h : ∀ k, g.ownBlock = some k → S k ∨ B ≤ k) (hx : Ext W w1 g v1) (hB : B ≤ W.heap.size) : ∀ k, v1.ownBlock = some k → S k ∨ B ≤ k := fun k hk => by
 rcases hx.own with ho | ⟨b, hb, hle⟩
 ·exact h k (ho ▸ hk)
 ·rw [hb] at hk
  injection hk with hk
  exact .inr (by omega)
theorem G2.stepG (hE : kd.E = []) (hne : eo ≠ ei) (hi : ei ≠ 45) (h : G2 kd eo ei w GB cs S N M fN fM f f4 xN xM y1 zg zm g m W) (hR : Row kd ei w1 v1 ((y1 ++ zg) ++ [p])) (hRo : Row kd ei w1 g (y1 ++ zg)) (hg : W.grownBy w1 g.ownBlock) (hx : Ext W w1 g v1) :
  G2 kd eo ei w GB cs S N M fN fM f f4 xN xM y1 (zg ++ [p]) zm v1 m w1 := by
 obtain ⟨hl, hp⟩ := h.pf.step hE hx hg (by rw [List.take_left]) h.rl hRo
 exact ⟨blk_g h.blk hg (out_ne h.rg h.blk hi), h.pr.lastN hE h.len hne hg h.rg h.ag hl, h.len, by rw [← List.append_assoc]; exact hR, h.rm.grown hE hg (fun k hk => (h.gm m (List.mem_singleton.2 rfl) k hk).2), hl, hp, h.ag.step hx hg.size, h.am.size hg.size, h.gm.step hx hg.size, h.mg.back hx hg.size h.rm (Kd.R_lt hR), h.fr.grown hg h.gs, own_in h.gs hx h.fr.size, h.ms⟩
theorem G2.stepM (hE : kd.E = []) (hne : eo ≠ ei) (hi : ei ≠ 45) (h : G2 kd eo ei w GB cs S N M fN fM f f4 xN xM y1 zg zm g m W) (hR : Row kd ei w1 v1 ((y1 ++ zm) ++ [p])) (hg : W.grownBy w1 m.ownBlock) (hx : Ext W w1 m v1) :
  G2 kd eo ei w GB cs S N M fN fM f f4 xN xM y1 zg (zm ++ [p]) g v1 w1 := by
 have hl : Row kd ei w1 (sl f) y1 := h.rl.grown hE hg (fun k hk => (h.am (sl f) (List.mem_append_left _ (List.mem_map.2 ⟨f, List.mem_append_right _ (List.mem_singleton.2 rfl), rfl⟩)) k hk).2)
 exact ⟨blk_g h.blk hg (out_ne h.rm h.blk hi), h.pr.lists hE hne hg h.rm h.am, h.len, h.rg.grown hE hg (fun k hk => (h.mg g (List.mem_singleton.2 rfl) k hk).2), by rw [← List.append_assoc]; exact hR, hl, h.pf, h.ag.size hg.size, h.am.step hx hg.size, h.gm.back hx hg.size h.rg (Kd.R_lt hR), h.mg.step hx hg.size, h.fr.grown hg h.ms, h.gs, own_in h.ms hx h.fr.size⟩
end
set_option maxHeartbeats 4000000 in
set_option maxRecDepth 100000 in
theorem wide_calls {GB c : Nat} {A : Option Addr} {N M Wv X T U : Value} {fW fX : List Tr} {xW : List (List Int)} {last : Int} {xs : List Int} (w : World)
  (hb : w.heap[GB]? = some (.cells (bkc N M Wv X T U last) 45 (0, 0))) (hP : Pr (Kd.int .i64) 22 2 w Wv X fW fX xW xW) (hl : Row (Kd.int .i64) 2 w (.slice A xs.length c) xs) (hap : Ap w (.slice A xs.length c) (fW.map sl ++ fX.map sl))
  (h0 : 0 ≤ last) (h1 : last ≤ 1099511627776) (hn : xs.length ≤ 16777216) (hm : xW.length ≤ 1099511627776) :
  Calls Tryd.prog 28 #[.pointer (some ⟨GB, 0, none⟩), .slice A xs.length c] w fun e w' => e = .returned (.tuple #[]) ∧ ∃ Wv' X' fW' fX' y1 y2, w'.heap[GB]? = some (.cells (bkc N M Wv' X' T U (last + 1)) 45 (0, 0)) ∧
   Pr (Kd.int .i64) 22 2 w' Wv' X' fW' fX' (xW ++ [y1] ++ [y2]) (xW ++ [y1] ++ [y2]) ∧ (y1.length ≤ 16777216 ∧ y2.length ≤ 16777280) ∧ (∀ k, Wv'.ownBlock = some k → Wv.ownBlock = some k ∨ w.heap.size ≤ k) ∧ (∀ k, X'.ownBlock = some k → X.ownBlock = some k ∨ w.heap.size ≤ k) ∧ Fr w w' (WiS GB Wv X (.slice A xs.length c)) := by
 have hu45 := Tryd.underlying45
 have c6 : w.cell? ⟨GB, 6, none⟩ = some (.int .i64 last) := (blk_cell hb 6).trans rfl
 have r6 := blk_frozen hb 6
 obtain ⟨L, hL⟩ : ∃ L, last + 1 = L := ⟨_, rfl⟩
 have hw : wrap64 (last + 1) = L := by unfold wrap64; omega
 have hL0 : 0 ≤ L := by omega
 have hL1 : L ≤ 1099511627777 := by omega
 obtain ⟨n, hnn⟩ : ∃ n, xs.length = n := ⟨_, rfl⟩
 rw [hnn] at hl hap hn ⊢
 rw [hL]
 obtain ⟨l, hle⟩ : ∃ l, Value.slice A n c = l := ⟨_, rfl⟩
 rw [hle] at hl hap
 have HNN := Lib.hid hnn
 have HB := Lib.hid hb
 have HP := Lib.hid hP
 have HL := Lib.hid hl
 have HAP := Lib.hid hap
 have HL0 := Lib.hid hL0
 have HL1 := Lib.hid hL1
 have HM := Lib.hid hm
 have HLE := Lib.hid hle
 clear hb hP hl hap h0 h1 hm hnn hL hL0 hL1 hle
 go_enter Tryd.func28, Tryd.ntmps28
 go_wp2
 have hb1 : (w.setCell ⟨GB, 6, none⟩ (.int .i64 L)).heap[GB]? = some (.cells (bkc N M Wv X T U L) 45 (0, 0)) := blk_put HB.out 6 _ rfl
 have hg1 := grownBy_set w ⟨GB, 6, none⟩ (.int .i64 L)
 have hP1 := HP.out.other rfl hg1 (t := 45) (fun k hk => by cases hk; exact ⟨_, HB.out⟩) (by decide) (by decide)
 have hl1 := HL.out.grown rfl hg1 (fun k hk he => out_ne HL.out HB.out (by decide) (he ▸ hk))
 have hf1 : Fr w (w.setCell ⟨GB, 6, none⟩ (.int .i64 L)) (WiS GB Wv X l) := (Fr.refl w _).grown hg1 (fun k hk => by cases hk; exact .inl (.inl rfl))
 have hap1 : Ap (w.setCell ⟨GB, 6, none⟩ (.int .i64 L)) l (fW.map sl ++ fX.map sl) := HAP.out.size hg1.size
 obtain ⟨w1, hw1⟩ : ∃ y, y = w.setCell ⟨GB, 6, none⟩ (.int .i64 L) := ⟨_, rfl⟩
 rw [← hw1] at hb1 hP1 hl1 hf1 hap1 ⊢
 clear hw1 hg1 c6 r6 hw HB HP HL HAP
 have HB1 := Lib.hid hb1
 have HP1 := Lib.hid hP1
 have HL1' := Lib.hid hl1
 have HF1 := Lib.hid hf1
 have HAP1 := Lib.hid hap1
 clear hb1 hP1 hl1 hf1 hap1
 go_loopw [4] (fun y wr => Wi1 w GB N M Wv X T U l fW fX xW L xs y wr ∧ Ap wr l (fW.map sl ++ fX.map sl)) (fun y _ => n - (intOf y).toNat)
 case atStart => exact ⟨⟨0, rfl, by omega, HB1.out, HP1.out, by rw [over_zero, tb_nthx]; exact HL1'.out, HF1.out⟩, HAP1.out⟩
 case round =>
  clear HB1 HP1 HL1' HF1 HAP1
  obtain ⟨⟨i, rfl, hi, hb, hP, hl, hf⟩, ha⟩ := hrel
  rename World => wa
  rw [HNN.out] at hi hl
  have HB := Lib.hid hb
  have HP := Lib.hid hP
  have HL := Lib.hid hl
  have HF := Lib.hid hf
  have HA := Lib.hid ha
  clear hb hP hl hf ha
  by_cases hlt : i < n
  ·have d1 : decide ((i : Int) < (n : Int)) = true := decide_eq_true (by omega)
   have d2 : decide (i < n) = true := decide_eq_true hlt
   have c6 : wa.cell? ⟨GB, 6, none⟩ = some (.int .i64 L) := (blk_cell HB.out 6).trans rfl
   obtain ⟨g, cap, hv, _, _, _⟩ := Kd.R_form HL.out (by rw [tb_length]; omega)
   rw [tb_length] at hv
   have hLv := HL.out
   rw [hv] at hLv
   obtain ⟨e0, e1⟩ := Kd.R_celln 0 hLv (i : Int) (by omega) (by omega)
   rw [Int.toNat_natCast] at e0 e1
   have hLE := HLE.out
   rw [hv] at hLE
   obtain ⟨rfl, _, rfl⟩ := Value.slice.inj hLE
   have hil : (i : Int) < (n : Int) := by omega
   have hi0 : (0 : Int) ≤ (i : Int) := by omega
   have hp := Kd.R_putg hLv (i : Int) L
   rw [Int.toNat_natCast, over_set (fun _ => L) (nth xs) hlt] at hp
   have HLT := Lib.hid hlt
   have HV := Lib.hid hv
   have HPU := Lib.hid hp
   clear hLv hv hLE hp hlt hi
   go_wp2
   go_roundw
   case rel =>
    have hgr := HPU.out.2
    have hnB : (some g : Option Nat) ≠ some GB := by have := out_ne HL.out HB.out (by decide); rw [HV.out] at this; exact this
    have hgl : l.ownBlock = some g := by rw [HV.out]; rfl
    refine ⟨⟨i + 1, by rw [Int.natCast_add]; rfl, HNN.out ▸ HLT.out, blk_g HB.out hgr hnB, ?_, ?_, HF.out.grown hgr (fun k hk => .inl (.inr (.inr (.inr (by rw [hgl]; exact hk)))))⟩, HA.out.size hgr.size⟩
    ·exact HP.out.lists rfl (by decide) (g := l) (by rw [hgl]; exact hgr) HL.out HA.out
    ·rw [HV.out, HNN.out]; exact HPU.out.1
   case measure => have := HLT.out; simp [intOf]; omega
  ·have d1 : decide ((i : Int) < (n : Int)) = false := decide_eq_false (by omega)
   have d2 : decide (i < n) = false := decide_eq_false hlt
   obtain rfl : i = n := by omega
   have c2 : wa.cell? ⟨GB, 2, none⟩ = some Wv := (blk_cell HB.out 2).trans rfl
   obtain ⟨y1, hy1⟩ : ∃ y, y = tb (overF (fun _ => L) (nth xs) i) i := ⟨_, rfl⟩
   have hyi : i = y1.length := by rw [hy1, tb_length]
   have HLW : Hid (Row (Kd.int .i64) 2 wa (.slice A i c) y1) := Lib.hid (by rw [HLE.out, hy1]; exact HL.out)
   have HAW : Hid (Ap wa (.slice A i c) (fW.map sl ++ fX.map sl)) := Lib.hid (by rw [HLE.out]; exact HA.out)
   have HXW : Hid (xW.length = fW.length ∧ xW.length = fX.length) := Lib.hid ⟨HP.out.cN.len.symm, HP.out.cM.len.symm⟩
   rw [← HLE.out] at HF
   clear hlt hi hy1 HL HA
   subst hyi
   go_wp2_with ((with_reducible refine gate_builtin (b := .append) (xs := #[.tmp 31, .tmp 33]) rfl ?_); at_builtin; refine R_append2 (d := slKd) rfl 0 rfl (.tmp 31) (.tmp 33) 42 22 (.slice none 0 0) 24 rfl Tryd.underlying42 linfo22 rfl (by decide) (by omega) Wv fW (A, y1.length, c) [.slice A y1.length c] rfl rfl rfl HP.out.cN.out (Nat.zero_le _) (by have := HXW.out; have := HM.out; omega) ?_; intro v1 w2 hR hRo hg hx; obtain ⟨A1, c1, e1⟩ := Kd.R_slice hR; rw [List.length_append, List.length_singleton] at e1; subst e1; have ho := out_N rfl (by decide) (by decide) (by decide) HB.out (j := 2) (cs' := bkc N M _ X T U L) rfl HP.out (f := (A, y1.length, c)) HLW.out hg hx hR; have HOW := Lib.hid ho.1; have HPW := Lib.hid ho.2; have HXX := Lib.hid hx; clear hR hRo hg hx ho c2; have c2 : w2.cell? ⟨GB, 2, none⟩ = some Wv := (blk_cell HOW.out.mid 2).trans rfl; have r2 := blk_frozen HOW.out.mid 2)
   clear c2 r2 d1 d2
   obtain ⟨w3, hw3⟩ : ∃ y, y = w2.setCell ⟨GB, 2, none⟩ (.slice A1 (fW.length + 1) c1) := ⟨_, rfl⟩
   rw [← hw3] at HOW HPW ⊢
   clear hw3
   have HL3 := Lib.hid (HOW.out.rows HLW.out)
   have HF3 := Lib.hid (HOW.out.fr HF.out (.inl rfl) (fun k hk => .inl (.inr (.inl hk))))
   have HA3 : Hid (Ap w3 (.slice A y1.length c) (fW.map sl ++ fX.map sl)) := Lib.hid (HAW.out.size HOW.out.size)
   have HX3 : Hid (∀ k, (Value.slice A1 (fW.length + 1) c1).ownBlock = some k → Wv.ownBlock = some k ∨ w.heap.size ≤ k) := Lib.hid (fun k hk => by
    rcases HXX.out.own with he | ⟨b, hb1, hb2⟩
    ·exact .inl (he ▸ hk)
    ·refine .inr ?_
     rw [hb1] at hk
     injection hk with hk
     have := HF.out.size
     omega)
   have HB3 := Lib.hid HOW.out.blk
   clear HOW HLW HF HAW HXX HB HP
   obtain ⟨Wv1, hWv1⟩ : ∃ y, y = Value.slice A1 (fW.length + 1) c1 := ⟨_, rfl⟩
   have HPD : Hid (Pr (Kd.int .i64) 22 2 w3.drew Wv1 X (fW ++ [(A, y1.length, c)]) fX (xW ++ [y1]) xW) := Lib.hid (by rw [hWv1]; exact HPW.out.below (below_drew (Below.refl _ _)))
   have HBD : Hid (w3.drew.heap[GB]? = some (.cells (bkc N M Wv1 X T U L) 45 (0, 0))) := Lib.hid (by rw [hWv1]; exact HB3.out)
   have HX3' : Hid (∀ k, Wv1.ownBlock = some k → Wv.ownBlock = some k ∨ w.heap.size ≤ k) := Lib.hid (by rw [hWv1]; exact HX3.out)
   have HLD := Lib.hid (HL3.out.below (below_drew (Below.refl _ _)))
   have HFD := Lib.hid (HF3.out.below (below_drew (Below.refl _ _)))
   have HAD : Hid (Ap w3.drew (.slice A y1.length c) (fW.map sl ++ fX.map sl)) := Lib.hid HA3.out
   clear HPW HB3 HX3 HL3 HF3 HA3 hWv1
   have c3 : w3.drew.cell? ⟨GB, 3, none⟩ = some X := (blk_cell HBD.out 3).trans rfl
   have hlr := Kd.R_reads' HLD.out
   have HLR := Lib.hid hlr
   clear hlr
   refine start_ (n := 12) (S := fun w' => w'.cell? ⟨GB, 3, none⟩ = some X) (ds := [11]) #[false, false, false, false, false, false, false, false, false, false, false, false] (by kernel_rfl) rfl rfl (c3) (fun hHeld => ?_)
   refine pu_ 0 37 ?_
   refine pu_ 1 38 ?_
   refine pu_ 2 39 ?_
   refine pu_ 3 40 ?_
   refine pu_ 5 42 ?_
   refine tk_ 4 41 hHeld ?_
   refine on_ 6 (some 43) (fun K hK => ?_)
   refine gs_ Tryd.func42 #[.slice A y1.length c] ?_
   with_reducible refine (copyW_calls w3.drew HLR.out.2.2 HLR.out.2.1 hn).mono ?_
   rintro e w4 ⟨v4, rfl, hR4, hb4⟩
   refine ⟨_, rfl, ?_⟩
   obtain ⟨A4, c4, e4⟩ := Kd.R_slice hR4
   subst e4
   have HR4 := Lib.hid hR4
   have HB4 := Lib.hid hb4
   have c4x := pw_cell_below hb4 c3
   clear hR4 hb4
   refine hK.out _ _ (c4x) (fun hHeld => ?_)
   clear hK K
   refine nm_ 43 ?_
   refine on_ 7 (some 44) (fun K hK => ?_)
   refine value_ (w1 := ?_) (v := ?_) (by rfl) rfl ?_ ?_
   rotate_left 2
   ·go_simp
    constructor
    ·rfl
    ·rfl
   refine hK.out _ _ (pw_cell_below (below_alloc (Below.refl w4.heap.size w4) _) c4x) (fun hHeld => ?_)
   clear hK K
   refine nm_ 44 ?_
   refine on_ 8 (some 45) (fun K hK => ?_)
   refine R_append2_step (P := Tryd.prog) (Kc := K) (d := slKd) rfl (W := w4) 0 ?cw (.tmp 41) (.tmp 44) 42 22 (.slice none 0 0) 24 rfl Tryd.underlying42 linfo22 rfl (by decide) (by omega) X fX (A4, y1.length, c4) [.slice A4 y1.length c4] rfl rfl rfl (HPD.out.below HB4.out).cM.out (Nat.zero_le _) ?cl ?_
   case cw => rfl
   case cl => have := HXW.out; have := HM.out; omega
   intro v5 w5 hR hRo hg hx
   obtain ⟨A5, c5, e5⟩ := Kd.R_slice hR
   rw [List.length_append, List.length_singleton] at e5
   subst e5
   have ho := out_M rfl (by decide) (by decide) (by decide) (blk_below HBD.out HB4.out) (j := 3) (cs' := bkc N M Wv1 _ T U L) rfl (HPD.out.below HB4.out) (f := (A4, y1.length, c4)) (Row.of HR4.out) hg hx hR
   have HOX := Lib.hid ho.1
   have HPX := Lib.hid ho.2
   have HXX := Lib.hid hx
   clear hR hRo hg hx ho
   have c5x : w5.cell? ⟨GB, 3, none⟩ = some X := (blk_cell HOX.out.mid 3).trans rfl
   have r5x := blk_frozen HOX.out.mid 3
   refine hK.out _ _ (c5x) (fun hHeld => ?_)
   clear hK K
   refine nm_ 45 ?_
   refine pu_ 9 46 ?_
   refine pu_ 10 47 ?_
   refine ls_ 11 none (fun K hK => ?_)
   refine sk_ (hK.out _ _ ?_)
   clear hK K
   refine dn_ ?_
   go_upto_region 7 with (fail)
   obtain ⟨X1, hX1⟩ : ∃ y, y = Value.slice A5 (fX.length + 1) c5 := ⟨_, rfl⟩
   obtain ⟨w6, hw6⟩ : ∃ y, y = w5.setCell ⟨GB, 3, none⟩ (.slice A5 (fX.length + 1) c5) := ⟨_, rfl⟩
   rw [← hw6, ← hX1] at HOX HPX
   rw [← hX1] at HXX
   rw [← hw6]
   clear hw6 c3 c4x c5x r5x
   have HL6 := Lib.hid (HOX.out.rows (HLD.out.below HB4.out))
   have HF6 := Lib.hid (HOX.out.fr (HFD.out.below HB4.out) (.inl rfl) (fun k hk => .inl (.inr (.inr (.inl hk)))))
   have HX6 : Hid (∀ k, X1.ownBlock = some k → X.ownBlock = some k ∨ w.heap.size ≤ k) := Lib.hid (fun k hk => by
    rcases HXX.out.own with he | ⟨b, hb1, hb2⟩
    ·exact .inl (he ▸ hk)
    ·refine .inr ?_
     rw [hb1] at hk
     injection hk with hk
     have := HFD.out.size
     have := HB4.out.size
     omega)
   have HA6 : Hid (Ap w6 (.slice A y1.length c) (fW.map sl ++ (fX ++ [(A4, y1.length, c4)]).map sl)) := Lib.hid (by
    have h4 : w4.heap.size ≤ w6.heap.size := HOX.out.size
    have h3 : w3.drew.heap.size ≤ w6.heap.size := Nat.le_trans HB4.out.size h4
    rw [List.map_append, ← List.append_assoc]
    refine (HAD.out.size h3).append (Ap.one fun k hk => ⟨Nat.lt_of_lt_of_le (Kd.R_lt HR4.out k hk) h4, fun he => ?_⟩)
    have h5 := Kd.R_base HR4.out k hk
    have h6 := Kd.R_lt HLD.out k he
    omega)
   have HB6 := Lib.hid HOX.out.blk
   have HP6 := Lib.hid HPX.out
   have HX6N : Hid (∀ k, Wv1.ownBlock = some k → WiS GB Wv X l k ∨ w.heap.size ≤ k) := Lib.hid (fun k hk => (HX3'.out k hk).imp (fun h => .inr (.inl h)) id)
   have HX6M : Hid (∀ k, X1.ownBlock = some k → WiS GB Wv X l k ∨ w.heap.size ≤ k) := Lib.hid (fun k hk => (HX6.out k hk).imp (fun h => .inr (.inr (.inl h))) id)
   clear HOX HPX HXX HFD HAD HBD HPD HLD HLR HR4 HB4
   have hl6 := Kd.R_reads' HL6.out
   have HLR := Lib.hid hl6
   clear hl6 hX1
   go_wp2_with fail
   refine (copyW_calls w6 HLR.out.2.2 HLR.out.2.1 hn).mono ?_
   rintro e w7 ⟨v7, rfl, hR7, hb7⟩
   obtain ⟨A7, c7, e7⟩ := Kd.R_slice hR7
   subst e7
   have hap7 : Ap w7 (.slice A7 y1.length c7) ((fW ++ [(A, y1.length, c)]).map sl ++ (fX ++ [(A4, y1.length, c4)]).map sl) := Ap.new hR7 hb7.size HP6.out.size
   have hb7' : ∀ k, (Value.slice A7 y1.length c7).ownBlock = some k → w.heap.size ≤ k := fun k hk => by have := Kd.R_base hR7 k hk; have := HF6.out.size; omega
   have HM7 := Lib.hid (Row.of hR7)
   have HAM7 := Lib.hid hap7
   have HMB7 := Lib.hid hb7'
   have HL7 := Lib.hid (HL6.out.below hb7)
   have HA7 := Lib.hid (HA6.out.size hb7.size)
   have HB7 := Lib.hid (blk_below HB6.out hb7)
   have HP7 := Lib.hid (HP6.out.below hb7)
   have HF7 := Lib.hid (HF6.out.below hb7)
   have HG7 : Hid (Ap w7 (.slice A y1.length c) [.slice A7 y1.length c7]) := Lib.hid (Ap.one fun k hk => ⟨Kd.R_lt hR7 k hk, fun he => by have := Kd.R_lt HL6.out k he; have := Kd.R_base hR7 k hk; omega⟩)
   have HH7 : Hid (Ap w7 (.slice A7 y1.length c7) [.slice A y1.length c]) := Lib.hid (Ap.one fun k hk => ⟨Kd.R_lt HL7.out k hk, fun he => by have := Kd.R_lt HL6.out k hk; have := Kd.R_base hR7 k he; omega⟩)
   clear hR7 hb7 hap7 hb7' HL6 HA6 HB6 HP6 HF6 HLR
   go_wp2
   go_loopw [1, 5, 6] (fun g m y wr => ∃ k : Nat, y = .int .i64 (k : Int) ∧ k ≤ 64 ∧ G2 (Kd.int .i64) 22 2 w GB (bkc N M Wv1 X1 T U L) (WiS GB Wv X l) Wv1 X1 fW fX (A, y1.length, c) (A4, y1.length, c4) xW xW y1 (tb (fun _ => -L) k) (tb (fun _ => -L) k) g m wr) (fun _ _ y _ => 64 - (intOf y).toNat)
   case atStart => exact ⟨0, rfl, by omega, ⟨HB7.out, HP7.out, HXW.out.1.symm, by rw [show tb (fun _ => -L) 0 = [] from rfl, List.append_nil]; exact HL7.out, by rw [show tb (fun _ => -L) 0 = [] from rfl, List.append_nil]; exact HM7.out, HL7.out, Pref.refl, HA7.out, HAM7.out, HG7.out, HH7.out, by rw [← HLE.out]; exact HF7.out, fun k hk => .inl (.inr (.inr (.inr (by rw [← HLE.out]; exact hk)))), fun k hk => .inr (HMB7.out k hk)⟩⟩
   case round =>
    obtain ⟨k, rfl, hk, hG⟩ := hrel
    obtain ⟨Ag, cg, eg⟩ := Kd.R_slice hG.rg
    obtain ⟨Am, cm, em⟩ := Kd.R_slice hG.rm
    rw [List.length_append, tb_length] at eg em
    rename World => wb
    subst eg em
    have c6 : wb.cell? ⟨GB, 6, none⟩ = some (.int .i64 L) := (blk_cell hG.blk 6).trans rfl
    have HG := Lib.hid hG
    clear hG HB7 HP7 HL7 HM7 HA7 HAM7 HG7 HH7 HF7 HMB7
    have hneg : wrap64 (-L) = -L := by have := HL0.out; have := HL1.out; unfold wrap64; omega
    by_cases hlt : k < 64
    ·have d1 : decide ((k : Int) < 64) = true := decide_eq_true (by omega)
     have HLT := Lib.hid hlt
     clear hlt hk
     go_upto_region 12 with ((with_reducible refine gate_builtin (b := .append) (xs := #[.tmp 54, .tmp 60]) rfl ?_); at_builtin; refine R_append2 (d := Kd.int .i64) rfl 0 rfl (.tmp 54) (.tmp 60) 22 2 (.int .i64 0) 8 rfl Tryd.underlying22 linfo2 rfl (by decide) (by omega) (.slice Ag (y1.length + k) cg) (y1 ++ tb (fun _ => -L) k) (-L) [.int .i64 (-L)] rfl rfl rfl HG.out.rg (Nat.zero_le _) (by rw [List.length_append, tb_length]; have := HLT.out; omega) ?_; intro v8 w8 hR hRo hg hx)
     have hG8 := HG.out.stepG rfl (by decide) (by decide) hR hRo hg hx
     have c6 : w8.cell? ⟨GB, 6, none⟩ = some (.int .i64 L) := (blk_cell hG8.blk 6).trans rfl
     have HG8 := Lib.hid hG8
     clear hG8 hR hRo hg hx HG
     go_wp2_with ((with_reducible refine gate_builtin (b := .append) (xs := #[.tmp 62, .tmp 68]) rfl ?_); at_builtin; refine R_append2 (d := Kd.int .i64) rfl 0 rfl (.tmp 62) (.tmp 68) 22 2 (.int .i64 0) 8 rfl Tryd.underlying22 linfo2 rfl (by decide) (by omega) (.slice Am (y1.length + k) cm) (y1 ++ tb (fun _ => -L) k) (-L) [.int .i64 (-L)] rfl rfl rfl HG8.out.rm (Nat.zero_le _) (by rw [List.length_append, tb_length]; have := HLT.out; omega) ?_; intro v9 w9 hR hRo hg hx)
     have hG9 := HG8.out.stepM rfl (by decide) (by decide) hR hg hx
     rw [← tb_succ] at hG9
     rw [up1 (by have := HLT.out; omega)]
     go_roundw
     case rel => exact ⟨k + 1, rfl, HLT.out, hG9⟩
     case measure => have := HLT.out; simp [intOf]; omega
    ·have d1 : decide ((k : Int) < 64) = false := decide_eq_false (by omega)
     obtain rfl : k = 64 := by omega
     have c2 : wb.cell? ⟨GB, 2, none⟩ = some Wv1 := (blk_cell HG.out.blk 2).trans rfl
     clear hlt hk
     obtain ⟨y2, hy2⟩ : ∃ y, y = y1 ++ tb (fun _ => -L) 64 := ⟨_, rfl⟩
     have hyl : y2.length = y1.length + 64 := by rw [hy2, List.length_append, tb_length]
     have HGR : Hid (Row (Kd.int .i64) 2 wb (.slice Ag y2.length cg) y2) := Lib.hid (by rw [hyl, hy2]; exact HG.out.rg)
     have HMR : Hid (Row (Kd.int .i64) 2 wb (.slice Am y2.length cm) y2) := Lib.hid (by rw [hyl, hy2]; exact HG.out.rm)
     have HPR := Lib.hid HG.out.pr
     have HFR := Lib.hid HG.out.fr
     have HBK := Lib.hid HG.out.blk
     have HY := Lib.hid hyl
     have HX7 : Hid (xW.length = fW.length ∧ xW.length = fX.length) := Lib.hid HXW.out
     rw [← hyl]
     clear hy2 hyl HG c6
     go_upto_region 14 with ((with_reducible refine gate_builtin (b := .append) (xs := #[.tmp 74, .tmp 76]) rfl ?_); at_builtin; refine R_append2 (d := slKd) rfl 0 rfl (.tmp 74) (.tmp 76) 42 22 (.slice none 0 0) 24 rfl Tryd.underlying42 linfo22 rfl (by decide) (by omega) Wv1 (fW ++ [(A, y1.length, c)]) (Ag, y2.length, cg) [.slice Ag y2.length cg] rfl rfl rfl HPR.out.cN.out (Nat.zero_le _) (by rw [List.length_append]; have := HX7.out; have := HM.out; simp only [List.length_singleton]; omega) ?_; intro v1 w8 hR hRo hg hx; obtain ⟨A1, c1, e1⟩ := Kd.R_slice hR; rw [List.length_append, List.length_append, List.length_singleton, List.length_singleton] at e1; subst e1; have ho := out_N rfl (by decide) (by decide) (by decide) HBK.out (j := 2) (cs' := bkc N M _ X1 T U L) rfl HPR.out (f := (Ag, y2.length, cg)) HGR.out hg hx hR; have HOW := Lib.hid ho.1; have HPW := Lib.hid ho.2; have HXA := Lib.hid hx; clear hR hRo hg hx ho c2; have c2 : w8.cell? ⟨GB, 2, none⟩ = some Wv1 := (blk_cell HOW.out.mid 2).trans rfl; have r2 := blk_frozen HOW.out.mid 2)
     obtain ⟨Wv2, hWv2⟩ : ∃ y, y = Value.slice A1 (fW.length + 1 + 1) c1 := ⟨_, rfl⟩
     obtain ⟨wd, hwd⟩ : ∃ y, y = w8.setCell ⟨GB, 2, none⟩ (.slice A1 (fW.length + 1 + 1) c1) := ⟨_, rfl⟩
     rw [← hwd, ← hWv2] at HOW HPW
     rw [← hWv2] at HXA
     rw [← hwd]
     clear hwd hWv2 c2 r2
     have HMD := Lib.hid (HOW.out.rows HMR.out)
     have HFD := Lib.hid (HOW.out.fr HFR.out (.inl rfl) HX6N.out)
     have HXN := Lib.hid (own_in (S := fun k => Wv.ownBlock = some k) HX3'.out HXA.out HFR.out.size)
     have c3 : wd.cell? ⟨GB, 3, none⟩ = some X1 := (blk_cell HOW.out.blk 3).trans rfl
     clear HGR HMR HPR HFR HBK
     go_wp2_with ((with_reducible refine gate_builtin (b := .append) (xs := #[.tmp 84, .tmp 86]) rfl ?_); at_builtin; refine R_append2 (d := slKd) rfl 0 rfl (.tmp 84) (.tmp 86) 42 22 (.slice none 0 0) 24 rfl Tryd.underlying42 linfo22 rfl (by decide) (by omega) X1 (fX ++ [(A4, y1.length, c4)]) (Am, y2.length, cm) [.slice Am y2.length cm] rfl rfl rfl HPW.out.cM.out (Nat.zero_le _) (by rw [List.length_append]; have := HX7.out; have := HM.out; simp only [List.length_singleton]; omega) ?_; intro v1 w9 hR hRo hg hx; obtain ⟨A2, c2, e2⟩ := Kd.R_slice hR; rw [List.length_append, List.length_append, List.length_singleton, List.length_singleton] at e2; subst e2; have ho := out_M rfl (by decide) (by decide) (by decide) HOW.out.blk (j := 3) (cs' := bkc N M Wv2 _ T U L) rfl HPW.out (f := (Am, y2.length, cm)) HMD.out hg hx hR; have HOY := Lib.hid ho.1; have HPY := Lib.hid ho.2; have HXB := Lib.hid hx; clear hR hRo hg hx ho c3; have c3 : w9.cell? ⟨GB, 3, none⟩ = some X1 := (blk_cell HOY.out.mid 3).trans rfl; have r3 := blk_frozen HOY.out.mid 3)
     go_end0
     exact ⟨rfl, Wv2, _, _, _, y1, y2, HOY.out.blk, HPY.out, ⟨hn, by have := HY.out; omega⟩, HXN.out, own_in (S := fun k => X.ownBlock = some k) HX6.out HXB.out HFD.out.size, by rw [HLE.out]; exact HOY.out.fr HFD.out (.inl rfl) HX6M.out⟩
end Wk
end Go.Proofs.YtnioohhiphpplaaDoor.Dp
