/- The walk of GaugeStays: it returns true for every most and every script. -/
import Derived.Test.YtljkfbmpokcpjaaGr
import Derived.Test.YtljkfbmpokcpjaaPureGaugeNews
namespace Go.Proofs.Ytljkfbmpokcpjaa.Nx
open Go.RowKit Go.Proofs.Ytljkfbmpokcpjaa.PGaugeChecks Go.Proofs.YtljkfbmpokcpjaaW.PrintWords Go.Proofs.YtljkfbmpokcpjaaW.PrintLast Go.Proofs.YtljkfbmpokcpjaaW.PrintMore Go.Proofs.Ytljkfbmpokcpjaa.M Go.Proofs.Ytljkfbmpokcpjaa.Pure
attribute [local go_sem] max2_int min2_int max_two min_two
attribute [local go_sem high] eqA23

/-- A script that came in: what its places hold. -/
def Wents (w : World) (p : Option Addr) (len : Nat) : Prop :=
  ∀ k, k < len → ∃ b off x y, p = some ⟨b, off, none⟩ ∧ w.cell? ⟨b, off + k * 2, none⟩ = some (.int .i64 x) ∧ w.cell? ⟨b, off + k * 2 + 1, none⟩ = some (.int .i64 y) ∧ b < w.heap.size
theorem wents_below {w wr : World} {p : Option Addr} {len : Nat} (h : Wents w p len) (hb : Below w.heap.size w wr) : Wents wr p len := fun k hk => by
  obtain ⟨b, off, x, y, e, hc, hd, hl⟩ := h k hk
  exact ⟨b, off, x, y, e, (hb.cell (p := ⟨b, off + k * 2, none⟩) hl).trans hc, (hb.cell (p := ⟨b, off + k * 2 + 1, none⟩) hl).trans hd, Nat.lt_of_lt_of_le hl hb.size⟩

theorem long_calls (n : Int) (w : World) : Calls Try.prog 17 #[.int .i64 n] w fun e w' => e = .returned (.bool (decide (2147483647 < n))) ∧ w = w' := by
  go_enter Try.func17, Try.ntmps17
  go_wp2
  go_ret
  exact ⟨rfl, rfl⟩

theorem new_bad {m : Int} (h : m < 1 ∨ 32 < m) (w : World) : Calls Try.prog 12 #[.int .i64 m] w (Tells 0 0 0 1 w) := by
  refine PGaugeNews.gauge_New.calls m 0 0 0 1 w ?_
  rw [GaugeNews.new_is, if_pos h]
theorem new_good {m j : Int} (h : ¬ (m < 1 ∨ 32 < m)) (hj : (if m < 4 then m else 4) = j) (w : World) : Calls Try.prog 12 #[.int .i64 m] w (Tells j m 0 0 w) := by
  refine PGaugeNews.gauge_New.calls m j m 0 0 w ?_
  rw [GaugeNews.new_is, if_neg h, ← hj]
  split <;> rfl

/-- Next of a gauge and a tree that may be. -/
theorem next_ok {s m r n a : Int} (h : Good s m r) (c1 : ¬ n < 1) (c2 : ¬ 32 < n) (c3 : ¬ a < 0) (c4 : ¬ n ≤ a) : ∃ s' r', nextF s m r n a = ⟨s', m, r', 0⟩ ∧ Good s' m r' := by
  obtain ⟨m0, m1, s0, s1, r0, r1⟩ := h
  unfold nextF
  rw [if_neg (by intro q; rcases q with q | q | q | q | q <;> first | contradiction | exact q ⟨m0, m1, s0, s1, r0, r1⟩)]
  by_cases cn : n = 1
  · rw [if_pos cn]
    by_cases cs : 1 < s
    · rw [if_pos cs]; exact ⟨_, _, rfl, by omega, by omega, by omega, by omega, by omega, by omega⟩
    rw [if_neg cs]
    by_cases cr : r < 3
    · rw [if_pos cr]; exact ⟨_, _, rfl, by omega, by omega, by omega, by omega, by omega, by omega⟩
    rw [if_neg cr]
    refine ⟨_, _, rfl, by omega, by omega, ?_, ?_, by omega, by omega⟩ <;> split <;> omega
  rw [if_neg cn]
  by_cases ca : a = 0
  · rw [if_pos ca]
    refine ⟨_, _, rfl, by omega, by omega, ?_, ?_, by omega, by omega⟩ <;> split <;> omega
  rw [if_neg ca]
  by_cases cm : n - 1 ≤ 2 * a
  · rw [if_pos cm]
    refine ⟨_, _, rfl, by omega, by omega, ?_, ?_, by omega, by omega⟩ <;> split <;> omega
  · rw [if_neg cm]; exact ⟨_, _, rfl, by omega, by omega, by omega, by omega, by omega, by omega⟩
theorem next_fail {s m r n a : Int} (h : n < 1 ∨ (¬ n < 1 ∧ 32 < n) ∨ (¬ n < 1 ∧ ¬ 32 < n ∧ a < 0) ∨ (¬ n < 1 ∧ ¬ 32 < n ∧ ¬ a < 0 ∧ n ≤ a)) : nextF s m r n a = ⟨0, 0, 0, 1⟩ := by
  unfold nextF
  rw [if_pos (by omega)]

/-- Behind i trees. -/
def StayRel (w : World) (g : Nat) (m : Int) (len : Nat) (v : Value) (wr : World) : Prop :=
  ∃ i s r : Int, v = .int .i64 i ∧ 0 ≤ i ∧ i ≤ len ∧ Box wr g s m r ∧ Below w.heap.size w wr ∧ Good s m r

theorem stays_long (m : Int) (p : Option Addr) (len cap : Nat) (h : (2147483647 : Int) < len) (w : World) :
    Calls Try.prog 8 #[.int .i64 m, .slice p len cap] w fun e w' => e = .returned (.bool true) ∧ Below w.heap.size w w' := by
  have hd : decide ((2147483647 : Int) < len) = true := decide_eq_true h
  go_enter Try.func8, Try.ntmps8
  go_wp2_with fail
  refine (long_calls _ _).mono ?_
  rintro e w1 ⟨rfl, rfl⟩
  go_wp2
  go_ret
  exact ⟨rfl, Below.refl _ _⟩

theorem stays_bad {m : Int} (hm : m < 1 ∨ (¬ m < 1 ∧ 32 < m)) (p : Option Addr) (len cap : Nat) (h : ¬ (2147483647 : Int) < len) (w : World) :
    Calls Try.prog 8 #[.int .i64 m, .slice p len cap] w fun e w' => e = .returned (.bool true) ∧ Below w.heap.size w w' := by
  have hd : decide ((2147483647 : Int) < len) = false := decide_eq_false h
  have HM : Hid (m < 1 ∨ 32 < m) := Lib.hid (by omega)
  clear h
  rcases hm with c1 | ⟨c1, c2⟩
  all_goals
    go_enter Try.func8, Try.ntmps8
    go_wp2_with fail
    refine (long_calls _ _).mono ?_
    rintro e w1 ⟨rfl, rfl⟩
    go_wp2_with fail
    refine (new_bad HM.out _).mono ?_
    rintro e w2 ⟨rfl, hb⟩
    go_wp2
    go_ret
    exact ⟨rfl, hb.alloc hb.size _⟩

set_option maxHeartbeats 4000000 in
theorem stays_good {m : Int} (m0 : 1 ≤ m) (m1 : m ≤ 32) (p : Option Addr) (len cap : Nat) (h : ¬ (2147483647 : Int) < len) (w : World) (hp : Wents w p len) :
    Calls Try.prog 8 #[.int .i64 m, .slice p len cap] w fun e w' => e = .returned (.bool true) ∧ Below w.heap.size w w' := by
  have hd : decide ((2147483647 : Int) < len) = false := decide_eq_false h
  have hl : (len : Int) ≤ 2147483647 := by omega
  obtain ⟨j, hj⟩ : ∃ j : Int, (if m < 4 then m else 4) = j := ⟨_, rfl⟩
  have j0 : 1 ≤ j := by rw [← hj]; split <;> omega
  have j1 : j ≤ m := by rw [← hj]; split <;> omega
  have HJ := Lib.hid hj
  have HP := Lib.hid hp
  have HM : Hid (¬ (m < 1 ∨ 32 < m)) := Lib.hid (by omega)
  clear hj hp h
  go_enter Try.func8, Try.ntmps8
  go_wp2_with fail
  refine (long_calls _ _).mono ?_
  rintro e w1 ⟨rfl, rfl⟩
  go_wp2_with fail
  refine (new_good (by have := HM.out; omega) HJ.out _).mono ?_
  rintro e w2 ⟨rfl, hb⟩
  have B2 := Box.mk_alloc w2 j m 0
  have HS2 := Lib.hid hb.size
  have HB2 := Lib.hid B2
  have Hb2 : Hid (Below w.heap.size w (w2.alloc (.cells #[.int .i64 j, .int .i64 m, .int .i64 0] 23))) := Lib.hid (hb.alloc hb.size _)
  clear hb B2
  go_wp2_with fail
  refine (right_yes (by omega) (by omega) (by omega) (by omega) _).mono ?_
  rintro e w3 ⟨rfl, hb⟩
  have B3 := HB2.out.below hb
  have b3 := Hb2.out.trans (hb.mono Hb2.out.size)
  have HB3 := Lib.hid B3
  have Hb3 := Lib.hid b3
  clear hb b3 B3 HB2 Hb2
  obtain ⟨G, hG⟩ : ∃ G, w2.heap.size = G := ⟨_, rfl⟩
  rw [hG] at HB3 ⊢
  have HGW : Hid (w.heap.size ≤ G) := Lib.hid (by rw [← hG]; exact HS2.out)
  clear hG
  go_wp2
  go_loopw [7] (fun v wr => StayRel w G m len v wr) (fun v _ => (len - intOf v).toNat)
  case atStart => exact ⟨0, j, 0, rfl, by omega, by omega, HB3.out, Hb3.out, by omega, by omega, by omega, by omega, by omega, by omega⟩
  case round =>
    clear HB3 Hb3 HJ j0 j1
    obtain ⟨i, s, r, rfl, i0, i1, hbox, hbel, hgood⟩ := hrel
    have HBX := Lib.hid hbox
    have HBL := Lib.hid hbel
    have HGD := Lib.hid hgood
    obtain ⟨k0, k1, k2, _, _, _, klt⟩ := hbox
    clear hbel hgood
    by_cases hi : i < len
    · obtain ⟨b, off, n, a, hpe, hcn, hca, hb0⟩ := wents_below HP.out HBL.out i.toNat (by omega)
      subst hpe
      have i2 : i.toNat < len := by omega
      by_cases bad : n < 1 ∨ (¬ n < 1 ∧ 32 < n) ∨ (¬ n < 1 ∧ ¬ 32 < n ∧ a < 0) ∨ (¬ n < 1 ∧ ¬ 32 < n ∧ ¬ a < 0 ∧ n ≤ a)
      · have hN : ∀ w, Calls Try.prog 14 #[.agg #[.int .i64 s, .int .i64 m, .int .i64 r], .int .i64 n, .int .i64 a] w (Tells 0 0 0 1 w) := fun w => by
          have := next_calls s m r n a w
          rw [next_fail bad] at this; exact this
        have HN := Lib.hid hN
        clear hN
        rcases bad with c1 | ⟨c1, c2⟩ | ⟨c1, c2, c3⟩ | ⟨c1, c2, c3, c4⟩
        all_goals
          go_wp2_with fail
          refine (HN.out _).mono ?_
          rintro e w4 ⟨rfl, hb⟩
          have B4 := HBX.out.below hb
          have b4 := HBL.out.trans (hb.mono HBL.out.size)
          have HB4 := Lib.hid B4
          have Hb4 := Lib.hid b4
          clear hb b4 B4 k0 k1 k2 klt HBX HBL hcn hca
          go_wp2
          go_roundw
          case rel => exact ⟨i + 1, s, r, rfl, by omega, by omega, HB4.out.alloc _, Hb4.out.alloc (Hb4.out.size) _, HGD.out⟩
          case measure => simp [intOf]; omega
      · have c1 : ¬ n < 1 := by omega
        have c2 : ¬ 32 < n := by omega
        have c3 : ¬ a < 0 := by omega
        have c4 : ¬ n ≤ a := by omega
        obtain ⟨s', r', eN, gN⟩ := next_ok HGD.out c1 c2 c3 c4
        have hN : ∀ w, Calls Try.prog 14 #[.agg #[.int .i64 s, .int .i64 m, .int .i64 r], .int .i64 n, .int .i64 a] w (Tells s' m r' 0 w) := fun w => by
          have := next_calls s m r n a w
          rw [eN] at this; exact this
        have HN := Lib.hid hN
        have HGN := Lib.hid gN
        obtain ⟨_, _, s0, s1, r0, r1⟩ := gN
        clear hN eN bad
        go_wp2_with fail
        refine (HN.out _).mono ?_
        rintro e w4 ⟨rfl, hb⟩
        have B4 := HBX.out.below hb
        have b4 := HBL.out.trans (hb.mono HBL.out.size)
        have HB4 : Hid (Box (w4.alloc (.cells #[.int .i64 s', .int .i64 m, .int .i64 r'] 23)) G s m r) := Lib.hid (B4.alloc _)
        have Hb4 : Hid (Below w.heap.size w (w4.alloc (.cells #[.int .i64 s', .int .i64 m, .int .i64 r'] 23))) := Lib.hid (b4.alloc b4.size _)
        have HH4 := Lib.hid (Box.mk_alloc w4 s' m r')
        clear hb b4 B4 k0 k1 k2 klt HBX HBL hcn hca
        go_wp2_with fail
        refine (right_yes (by omega) (by omega) (by omega) (by omega) _).mono ?_
        rintro e w5 ⟨rfl, hb⟩
        have B5 := HB4.out.below hb
        have b5 := Hb4.out.trans (hb.mono Hb4.out.size)
        have h5 := HH4.out.below hb
        obtain ⟨l0, l1, l2, _, _, _, llt⟩ := h5
        have HH5 : Hid (Box w5 w4.heap.size s' m r') := Lib.hid ⟨l0, l1, l2, by assumption, by assumption, by assumption, llt⟩
        have HB5 := Lib.hid B5
        have Hb5 := Lib.hid b5
        clear hb B5 b5 HB4 Hb4 HH4
        go_wp2_with fail
        refine (check_yes HGN.out _).mono ?_
        rintro e w6 ⟨rfl, hb⟩
        have B6 := HB5.out.below hb
        have b6 := Hb5.out.trans (hb.mono Hb5.out.size)
        have h6 := HH5.out.below hb
        clear l0 l1 l2 llt
        have HB6 := Lib.hid B6
        have Hb6 := Lib.hid b6
        clear hb b6 HB5 Hb5 HH5
        obtain ⟨l0, l1, l2, _, _, _, llt⟩ := h6
        obtain ⟨k0, k1, k2, _, _, _, klt⟩ := B6
        go_wp2
        go_roundw
        case rel =>
          exact ⟨i + 1, s', r', rfl, by omega, by omega, HB6.out.put s' m r', ((Hb6.out.setCell (by first | exact Nat.le_refl _ | (have := HGW.out; simpa using this)) _).setCell (by first | exact Nat.le_refl _ | (have := HGW.out; simpa using this)) _).setCell (by first | exact Nat.le_refl _ | (have := HGW.out; simpa using this)) _, HGN.out⟩
        case measure => simp [intOf]; omega
    · go_wp2
      go_ret
      exact ⟨rfl, HBL.out⟩

theorem stays_calls (m : Int) (p : Option Addr) (len cap : Nat) (w : World) (hp : Wents w p len) :
    Calls Try.prog 8 #[.int .i64 m, .slice p len cap] w fun e w' => e = .returned (.bool true) ∧ Below w.heap.size w w' := by
  by_cases h : (2147483647 : Int) < len
  · exact stays_long m p len cap h w
  by_cases c1 : m < 1
  · exact stays_bad (.inl c1) p len cap h w
  by_cases c2 : 32 < m
  · exact stays_bad (.inr ⟨c1, c2⟩) p len cap h w
  exact stays_good (by omega) (by omega) p len cap h w hp
end Go.Proofs.Ytljkfbmpokcpjaa.Nx
