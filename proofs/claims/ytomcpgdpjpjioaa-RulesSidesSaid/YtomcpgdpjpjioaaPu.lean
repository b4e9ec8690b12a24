/- Contract: the document's Protected. -/
import Derived.Test.YtomcpgdpjpjioaaPt
import Derived.Test.YtomcpgdpjpjioaaPr
namespace Go.Proofs.Ytomcpgdpjpjioaa
open Go.RowKit Go.Proofs Go.Shelf

theorem row_up {b : Nat} {W W' : World} {e : TypeId} {size n : Nat} {v : Value} {xs : List Value} (h : W.ownsRow b e size v n xs) (hb : Below W.heap.size W W') : W'.ownsRow b e size v n xs := by
  obtain ⟨q1, q2⟩ := h
  refine ⟨q1, q2.imp_right ?_⟩
  rintro ⟨g, cap, cur, q3, q4, q5, q6⟩
  exact ⟨g, cap, cur, q3, q4, boxed_cells_up q5 hb, q6⟩
theorem row_shape {b : Nat} {W : World} {e : TypeId} {size n : Nat} {v : Value} {xs : List Value} (h : W.ownsRow b e size v n xs) : ∃ A c, v = .slice A n c := by
  rcases h.2 with ⟨rfl, h0⟩ | ⟨g, cap, cur, rfl, -⟩
  · exact ⟨none, 0, by rw [h0]⟩
  · exact ⟨_, _, rfl⟩
/-- Two rows do not lie in one block. -/
def Dis (a b : Option Nat) : Prop := a = none ∨ a ≠ b
theorem Dis.flip {a b : Option Nat} (h : Dis a b) : b = none ∨ b ≠ a := by
  rcases h with h | h
  · subst h
    cases b
    · exact .inl rfl
    · exact .inr (by simp)
  · exact .inr h.symm
theorem dis_app1 {a b a' : Option Nat} {M : Nat} (h : Dis a b) (h1 : a' = a ∨ a' = some M) (hb : ∀ j, b = some j → j < M) : Dis a' b := by
  rcases h1 with rfl | rfl
  · exact h
  · right; intro e; have := hb M e.symm; omega
theorem dis_app2 {a b b' : Option Nat} {M : Nat} (h : Dis a b) (h1 : b' = b ∨ b' = some M) (ha : ∀ j, a = some j → j < M) : Dis a b' := by
  rcases h1 with rfl | rfl
  · exact h
  · right; intro e; have := ha M e; omega

theorem ownN_base {b : Nat} {W : World} {v : Value} {d : List Nat} (h : OwnN (b + 1) W v d) : OwnN b W v d := by
  obtain ⟨A', cap', h1, h2, h3, h4, h5⟩ := h
  exact ⟨A', cap', h1, h2, h3, h4, fun h => by obtain ⟨g, h6, h7, h8⟩ := h5 h; exact ⟨g, h6, by omega, h8⟩⟩
theorem Cd5.grown {W W' : World} {B base n : Nat} {c : Cd} {v : Value} {e : TypeId} {size : Nat} {xs : List Value} (h : Cd5 W B c) (_ : W.ownsRow base e size v n xs) (hg : W.grownBy W' v.ownBlock) (hB : v.ownBlock ≠ some B) : Cd5 W' B c := by
  obtain ⟨h0, h1, h2, h3, h4⟩ := h
  have hk := hg.block B (lt_cell h0) (fun e' => hB e'.symm)
  exact ⟨(cell_heap hk).trans h0, (cell_heap hk).trans h1, (cell_heap hk).trans h2, (cell_heap hk).trans h3, (cell_heap hk).trans h4⟩

set_option maxRecDepth 100000 in
set_option maxHeartbeats 4000000 in
theorem refProtected (c : Cd) (n team : Int) (l : List St) (v : Value) (w : World) (hrow : RowS w v l) : Calls Try.prog 12 #[Cdv c, .int .i64 n, .int .i64 team, v] w (PrC c n team l w) := by
  obtain ⟨i0, hi, hz0, hz1, hz2⟩ := info_parts Try.info3
  have HR := Lib.hid hrow
  obtain ⟨A, cap, rfl, hlc, -, hcells⟩ := hrow
  have HCE := Lib.hid hcells
  clear hcells
  have B : Hid (Below w.heap.size w (w.alloc (.cells #[.int .i64 c.f, .int .i64 c.t, .int .i64 c.s, .int .i64 c.e, .bool c.p] 23))) := (Below.refl _ _).alloc (Nat.le_refl _) _
  have K := Lib.hid (Cd5.new w c)
  have H13 := Lib.hid (fun w => refCheckCode c w)
  have H32 : Hid (∀ W, Below w.heap.size w W → Calls Try.prog 22 #[.slice A l.length cap] W (Back (.bool (chkB l)) W)) := fun W hW => refCheck l _ W (HR.out.up hW)
  have H33 : Hid (∀ w, Calls Try.prog 37 #[.int .i64 team, .int .i64 0, .int .i64 1] w fun e w' => e = .returned (.bool (decide (0 ≤ team ∧ team ≤ 1))) ∧ w = w') := fun w => rin _ _ _ w
  have H34 : Hid (∀ w, Calls Try.prog 37 #[.int .i64 n, .int .i64 0, .int .i64 16] w fun e w' => e = .returned (.bool (decide (0 ≤ n ∧ n ≤ 16))) ∧ w = w') := fun w => rin _ _ _ w
  obtain ⟨k0, hk0⟩ : ∃ k, ccB c = k := ⟨_, rfl⟩
  obtain ⟨k1, hk1⟩ : ∃ k, chkB l = k := ⟨_, rfl⟩
  obtain ⟨k2, hk2⟩ : ∃ k, decide (0 ≤ team ∧ team ≤ 1) = k := ⟨_, rfl⟩
  obtain ⟨k3, hk3⟩ : ∃ k, decide (0 ≤ n ∧ n ≤ 16) = k := ⟨_, rfl⟩
  have HE : Hid (prE c n team l = if k0 && k1 && k2 then (if k3 = true then 0 else 4) else 2) := by
    show _ = _
    unfold prE
    rw [hk0, hk1, hk2, ← hk3]
    simp
  rw [hk0] at H13
  rw [hk1] at H32
  rw [hk2] at H33
  rw [hk3] at H34
  have H16 : Hid (k1 = true → l.length ≤ 16) := fun h => by rw [h] at hk1; exact (chk_facts hk1).1
  clear hk0 hk1 hk2 hk3
  obtain ⟨f, t, s', e, p⟩ := c
  rcases k0 with _ | _ <;> rcases k1 with _ | _ <;> rcases k2 with _ | _ <;> rcases k3 with _ | _
  case true.true.true.true =>
    have h16 := H16.out rfl
    have HEE : Hid (prE ⟨f, t, s', e, p⟩ n team l = 0) := HE.out
    clear HE H16
    go_enter Try.func12, Try.ntmps12
    go_wp2_with (first
      | (go_at_call 14; (with_reducible refine (H13.out _).mono ?_); rintro e w1 ⟨rfl, hb1⟩; replace B := Lib.hid (B.out.trans (hb1.mono B.out.size)); have BK := Lib.hid hb1; clear hb1)
      | (go_at_call 22; (with_reducible refine (H32.out _ B.out).mono ?_); rintro e w2 ⟨rfl, hb1⟩; replace B := Lib.hid (B.out.trans (hb1.mono B.out.size)); replace BK := Lib.hid (BK.out.trans (hb1.mono BK.out.size)); clear hb1)
      | (go_at_call 37; (with_reducible refine (H33.out _).mono ?_); rintro e w3 ⟨rfl, rfl⟩)
      | (go_at_call 37; (with_reducible refine (H34.out _).mono ?_); rintro e w4 ⟨rfl, rfl⟩))
    have hw0 : w.heap.size ≤ w2.heap.size := B.out.size
    have B0 : Hid (Below w2.heap.size w2 w2) := Below.refl _ _
    have K2 : Hid (Cd5 w2 w.heap.size ⟨f, t, s', e, p⟩) := K.out.up BK.out
    have HR2 : Hid (RowS w2 (.slice A l.length cap) l) := HR.out.up B.out
    have O1 : Hid (w2.ownsRow (w.heap.size + 1) 3 1 (.slice none 0 0) 0 ((wK (kpB ⟨f, t, s', e, p⟩ n team) l 0).map pv)) := World.ownsRow_nil _ _ _ _
    have O2 : Hid (w2.ownsRow (w.heap.size + 1) 3 1 (.slice none 0 0) 0 ((wK (fxB ⟨f, t, s', e, p⟩ n team) l 0).map pv)) := World.ownsRow_nil _ _ _ _
    have D0 : Hid (Dis (Value.slice none 0 0).ownBlock (Value.slice none 0 0).ownBlock) := .inl rfl
    clear H13 H32 H33 H34
    go_loopw [11, 12, 13] (fun u1 u2 iv wr => ∃ (k n1 n2 : Nat), k ≤ l.length ∧ n1 ≤ k ∧ n2 ≤ k ∧ iv = .int .i64 k ∧ Hid (wr.ownsRow (w.heap.size + 1) 3 1 u1 n1 ((wK (kpB ⟨f, t, s', e, p⟩ n team) l k).map pv)) ∧ Hid (wr.ownsRow (w.heap.size + 1) 3 1 u2 n2 ((wK (fxB ⟨f, t, s', e, p⟩ n team) l k).map pv)) ∧ Hid (Dis u1.ownBlock u2.ownBlock) ∧ Hid (Below w.heap.size w wr) ∧ Hid (Cd5 wr w.heap.size ⟨f, t, s', e, p⟩)) (fun _ _ iv _ => l.length - (intOf iv).toNat)
    case atStart => exact ⟨0, 0, 0, by omega, by omega, by omega, rfl, O1, O2, D0, B, K2⟩
    case round =>
      obtain ⟨k, n1, n2, hk, hn1, hn2, rfl, ho1, ho2, hd, hb, hkc⟩ := hrel
      have HO1 := Lib.hid ho1.out
      have HO2 := Lib.hid ho2.out
      have DI := Lib.hid hd.out
      have HB := Lib.hid hb.out
      have KC := Lib.hid hkc.out
      clear ho1 ho2 hd hb hkc O1 O2 D0 B0 K2 B BK K
      by_cases hlt : k < l.length
      · have hlt' : (k : Int) < (l.length : Int) := by omega
        obtain ⟨b, o, rfl, hc⟩ := HCE.out (by intro h; subst h; simp at hlt)
        have hA := hc k hlt
        have hs1 := wK_step (p := kpB ⟨f, t, s', e, p⟩ n team) hlt
        have hs2 := wK_step (p := fxB ⟨f, t, s', e, p⟩ n team) hlt
        obtain ⟨s, hs⟩ : ∃ s, l[k]'hlt = s := ⟨_, rfl⟩
        rw [hs] at hA hs1 hs2
        have HA0 := Lib.hid hA
        have H38 := Lib.hid (fun w => refkept ⟨f, t, s', e, p⟩ n team s w)
        have H39 := Lib.hid (fun w => reffixed ⟨f, t, s', e, p⟩ n team s w)
        obtain ⟨q1, hq1⟩ : ∃ q, kpB ⟨f, t, s', e, p⟩ n team s = q := ⟨_, rfl⟩
        obtain ⟨q2, hq2⟩ : ∃ q, fxB ⟨f, t, s', e, p⟩ n team s = q := ⟨_, rfl⟩
        rw [hq1] at H38 hs1
        rw [hq2] at H39 hs2
        have HS1 := Lib.hid hs1
        have HS2 := Lib.hid hs2
        clear hq1 hq2 hs1 hs2 hs hA hc
        obtain ⟨s1, s2, s3, s4⟩ := s
        obtain ⟨v1, hv1⟩ : ∃ v, u11 = v := ⟨_, rfl⟩
        obtain ⟨v2, hv2⟩ : ∃ v, u12 = v := ⟨_, rfl⟩
        subst hv1 hv2
        rcases q1 with _ | _ <;> rcases q2 with _ | _
        ·
          go_upto_region 9 with fail
          obtain ⟨a0, a1, a2, a3⟩ := HA0.out.up HB.out
          obtain ⟨b0, b1, b2, b3, b4⟩ := KC.out
          simp only at a0 a1 a2 a3 b0 b1 b2 b3 b4
          have qa0 := fun X : BW wr => upc a0 X.same
          have qa1 := fun X : BW wr => upc a1 X.same
          have qa2 := fun X : BW wr => upc a2 X.same
          have qa3 := fun X : BW wr => upc a3 X.same
          have qb0 := fun X : BW wr => upc b0 X.same
          have qb1 := fun X : BW wr => upc b1 X.same
          have qb2 := fun X : BW wr => upc b2 X.same
          have qb3 := fun X : BW wr => upc b3 X.same
          have qb4 := fun X : BW wr => upc b4 X.same
          clear a0 a1 a2 a3 b0 b1 b2 b3 b4
          refine wp_region_quietB (by kernel_rfl) (by kernel_rfl) ?_
          repeat (go_big_quiet_step ((go_at_call 38; exact quietB (H38.out _))))
          refine wpQuiet_nil ?_
          rintro wy ⟨⟨wz, hb2⟩, hwz⟩
          change wy = wz at hwz
          subst hwz
          replace HB := Lib.hid (HB.out.trans (hb2.mono HB.out.size))
          replace HO1 := Lib.hid (row_up HO1.out hb2)
          replace HO2 := Lib.hid (row_up HO2.out hb2)
          replace KC := Lib.hid (KC.out.up hb2)
          clear qa0 qa1 qa2 qa3 qb0 qb1 qb2 qb3 qb4 hb2
          go_upto_region 11 with fail
          obtain ⟨a0, a1, a2, a3⟩ := HA0.out.up HB.out
          obtain ⟨b0, b1, b2, b3, b4⟩ := KC.out
          simp only at a0 a1 a2 a3 b0 b1 b2 b3 b4
          have qa0 := fun X : BW wy => upc a0 X.same
          have qa1 := fun X : BW wy => upc a1 X.same
          have qa2 := fun X : BW wy => upc a2 X.same
          have qa3 := fun X : BW wy => upc a3 X.same
          have qb0 := fun X : BW wy => upc b0 X.same
          have qb1 := fun X : BW wy => upc b1 X.same
          have qb2 := fun X : BW wy => upc b2 X.same
          have qb3 := fun X : BW wy => upc b3 X.same
          have qb4 := fun X : BW wy => upc b4 X.same
          clear a0 a1 a2 a3 b0 b1 b2 b3 b4
          refine wp_region_quietB (by kernel_rfl) (by kernel_rfl) ?_
          repeat (go_big_quiet_step ((go_at_call 39; exact quietB (H39.out _))))
          refine wpQuiet_nil ?_
          rintro wx ⟨⟨wz, hb2⟩, hwz⟩
          change wx = wz at hwz
          subst hwz
          replace HB := Lib.hid (HB.out.trans (hb2.mono HB.out.size))
          replace HO1 := Lib.hid (row_up HO1.out hb2)
          replace HO2 := Lib.hid (row_up HO2.out hb2)
          replace KC := Lib.hid (KC.out.up hb2)
          clear qa0 qa1 qa2 qa3 qb0 qb1 qb2 qb3 qb4 hb2
          go_wp2_with fail
          go_roundw
          case rel =>
            refine ⟨k + 1, n1, n2, by omega, by omega, by omega, by go_num, ?_, ?_, DI, HB, KC⟩
            · show World.ownsRow _ _ _ _ _ _ _; rw [HS1.out]; simpa using HO1.out
            · show World.ownsRow _ _ _ _ _ _ _; rw [HS2.out]; simpa using HO2.out
          case measure => simp [intOf]; omega

        ·
          go_upto_region 9 with fail
          obtain ⟨a0, a1, a2, a3⟩ := HA0.out.up HB.out
          obtain ⟨b0, b1, b2, b3, b4⟩ := KC.out
          simp only at a0 a1 a2 a3 b0 b1 b2 b3 b4
          have qa0 := fun X : BW wr => upc a0 X.same
          have qa1 := fun X : BW wr => upc a1 X.same
          have qa2 := fun X : BW wr => upc a2 X.same
          have qa3 := fun X : BW wr => upc a3 X.same
          have qb0 := fun X : BW wr => upc b0 X.same
          have qb1 := fun X : BW wr => upc b1 X.same
          have qb2 := fun X : BW wr => upc b2 X.same
          have qb3 := fun X : BW wr => upc b3 X.same
          have qb4 := fun X : BW wr => upc b4 X.same
          clear a0 a1 a2 a3 b0 b1 b2 b3 b4
          refine wp_region_quietB (by kernel_rfl) (by kernel_rfl) ?_
          repeat (go_big_quiet_step ((go_at_call 38; exact quietB (H38.out _))))
          refine wpQuiet_nil ?_
          rintro wy ⟨⟨wz, hb2⟩, hwz⟩
          change wy = wz at hwz
          subst hwz
          replace HB := Lib.hid (HB.out.trans (hb2.mono HB.out.size))
          replace HO1 := Lib.hid (row_up HO1.out hb2)
          replace HO2 := Lib.hid (row_up HO2.out hb2)
          replace KC := Lib.hid (KC.out.up hb2)
          clear qa0 qa1 qa2 qa3 qb0 qb1 qb2 qb3 qb4 hb2
          go_upto_region 11 with fail
          obtain ⟨a0, a1, a2, a3⟩ := HA0.out.up HB.out
          obtain ⟨b0, b1, b2, b3, b4⟩ := KC.out
          simp only at a0 a1 a2 a3 b0 b1 b2 b3 b4
          have qa0 := fun X : BW wy => upc a0 X.same
          have qa1 := fun X : BW wy => upc a1 X.same
          have qa2 := fun X : BW wy => upc a2 X.same
          have qa3 := fun X : BW wy => upc a3 X.same
          have qb0 := fun X : BW wy => upc b0 X.same
          have qb1 := fun X : BW wy => upc b1 X.same
          have qb2 := fun X : BW wy => upc b2 X.same
          have qb3 := fun X : BW wy => upc b3 X.same
          have qb4 := fun X : BW wy => upc b4 X.same
          clear a0 a1 a2 a3 b0 b1 b2 b3 b4
          refine wp_region_quietB (by kernel_rfl) (by kernel_rfl) ?_
          repeat (go_big_quiet_step ((go_at_call 39; exact quietB (H39.out _))))
          refine wpQuiet_nil ?_
          rintro wx ⟨⟨wz, hb2⟩, hwz⟩
          change wx = wz at hwz
          subst hwz
          replace HB := Lib.hid (HB.out.trans (hb2.mono HB.out.size))
          replace HO1 := Lib.hid (row_up HO1.out hb2)
          replace HO2 := Lib.hid (row_up HO2.out hb2)
          replace KC := Lib.hid (KC.out.up hb2)
          clear qa0 qa1 qa2 qa3 qb0 qb1 qb2 qb3 qb4 hb2
          have hzy := HB.out.size
          have hkb := lt_cell KC.out.1
          have KM := Lib.hid (HO2.out.alloc (.cells #[.int .i64 k] 3))
          have KO := Lib.hid (HO1.out.alloc (.cells #[.int .i64 k] 3))
          have B2 := Lib.hid (HB.out.alloc hzy (.cells #[.int .i64 k] 3))
          have KD := Lib.hid (KC.out.up ((Below.refl _ _).alloc (Nat.le_refl _) (.cells #[.int .i64 k] 3)))
          go_wp2_with (at_builtin; refine wpList_append_own_at _ rfl _ _ 29 rfl (w.heap.size + 1) 3 i0 _ 1 8 Try.underlying29 hi hz0 hz1 hz2 rfl (by decide) _ _ _ rfl KM.out ⟨wx.heap.size, 0, none⟩ 1 1 [pv k] rfl rfl (cell_one_new _ _ _) (by simp [Value.oneCell']) (by unfold maxLen; omega) (by omega) (by simp; omega) ?_; intro v' w5 hown hgrow hnn hat; replace HB := Lib.hid (B2.out.grown hgrow (by simp; omega) (fun j hj => by have := (ownBlock_ge KM.out hj).1; omega)); replace HO2 := Lib.hid hown; replace HO1 := Lib.hid (KO.out.kept hgrow (DI.out)); replace KC := Lib.hid (KD.out.grown KM.out hgrow (fun e' => by have := (ownBlock_ge KM.out e').1; omega)); replace DI := Lib.hid (dis_app2 DI.out hat (fun j hj => (KO.out.lt j hj).2)); clear hown hgrow hnn hat)
          clear KM KO B2 KD hkb
          go_roundw
          case rel =>
            refine ⟨k + 1, n1, n2 + 1, by omega, by omega, by omega, by go_num, ?_, ?_, DI, HB, KC⟩
            · show World.ownsRow _ _ _ _ _ _ _; rw [HS1.out]; simpa using HO1.out
            · show World.ownsRow _ _ _ _ _ _ _; rw [HS2.out]; simpa using HO2.out
          case measure => simp [intOf]; omega

        ·
          go_upto_region 9 with fail
          obtain ⟨a0, a1, a2, a3⟩ := HA0.out.up HB.out
          obtain ⟨b0, b1, b2, b3, b4⟩ := KC.out
          simp only at a0 a1 a2 a3 b0 b1 b2 b3 b4
          have qa0 := fun X : BW wr => upc a0 X.same
          have qa1 := fun X : BW wr => upc a1 X.same
          have qa2 := fun X : BW wr => upc a2 X.same
          have qa3 := fun X : BW wr => upc a3 X.same
          have qb0 := fun X : BW wr => upc b0 X.same
          have qb1 := fun X : BW wr => upc b1 X.same
          have qb2 := fun X : BW wr => upc b2 X.same
          have qb3 := fun X : BW wr => upc b3 X.same
          have qb4 := fun X : BW wr => upc b4 X.same
          clear a0 a1 a2 a3 b0 b1 b2 b3 b4
          refine wp_region_quietB (by kernel_rfl) (by kernel_rfl) ?_
          repeat (go_big_quiet_step ((go_at_call 38; exact quietB (H38.out _))))
          refine wpQuiet_nil ?_
          rintro wy ⟨⟨wz, hb2⟩, hwz⟩
          change wy = wz at hwz
          subst hwz
          replace HB := Lib.hid (HB.out.trans (hb2.mono HB.out.size))
          replace HO1 := Lib.hid (row_up HO1.out hb2)
          replace HO2 := Lib.hid (row_up HO2.out hb2)
          replace KC := Lib.hid (KC.out.up hb2)
          clear qa0 qa1 qa2 qa3 qb0 qb1 qb2 qb3 qb4 hb2
          have hzy := HB.out.size
          have hkb := lt_cell KC.out.1
          have KM := Lib.hid (HO1.out.alloc (.cells #[.int .i64 k] 3))
          have KO := Lib.hid (HO2.out.alloc (.cells #[.int .i64 k] 3))
          have B2 := Lib.hid (HB.out.alloc hzy (.cells #[.int .i64 k] 3))
          have KD := Lib.hid (KC.out.up ((Below.refl _ _).alloc (Nat.le_refl _) (.cells #[.int .i64 k] 3)))
          go_upto_region 11 with (at_builtin; refine wpList_append_own_at _ rfl _ _ 29 rfl (w.heap.size + 1) 3 i0 _ 1 8 Try.underlying29 hi hz0 hz1 hz2 rfl (by decide) _ _ _ rfl KM.out ⟨wy.heap.size, 0, none⟩ 1 1 [pv k] rfl rfl (cell_one_new _ _ _) (by simp [Value.oneCell']) (by unfold maxLen; omega) (by omega) (by simp; omega) ?_; intro v' w5 hown hgrow hnn hat; replace HB := Lib.hid (B2.out.grown hgrow (by simp; omega) (fun j hj => by have := (ownBlock_ge KM.out hj).1; omega)); replace HO1 := Lib.hid hown; replace HO2 := Lib.hid (KO.out.kept hgrow (DI.out.flip)); replace KC := Lib.hid (KD.out.grown KM.out hgrow (fun e' => by have := (ownBlock_ge KM.out e').1; omega)); replace DI := Lib.hid (dis_app1 DI.out hat (fun j hj => (KO.out.lt j hj).2)); clear hown hgrow hnn hat)
          clear KM KO B2 KD hkb
          obtain ⟨a0, a1, a2, a3⟩ := HA0.out.up HB.out
          obtain ⟨b0, b1, b2, b3, b4⟩ := KC.out
          simp only at a0 a1 a2 a3 b0 b1 b2 b3 b4
          have qa0 := fun X : BW w5 => upc a0 X.same
          have qa1 := fun X : BW w5 => upc a1 X.same
          have qa2 := fun X : BW w5 => upc a2 X.same
          have qa3 := fun X : BW w5 => upc a3 X.same
          have qb0 := fun X : BW w5 => upc b0 X.same
          have qb1 := fun X : BW w5 => upc b1 X.same
          have qb2 := fun X : BW w5 => upc b2 X.same
          have qb3 := fun X : BW w5 => upc b3 X.same
          have qb4 := fun X : BW w5 => upc b4 X.same
          clear a0 a1 a2 a3 b0 b1 b2 b3 b4
          refine wp_region_quietB (by kernel_rfl) (by kernel_rfl) ?_
          repeat (go_big_quiet_step ((go_at_call 39; exact quietB (H39.out _))))
          refine wpQuiet_nil ?_
          rintro wx ⟨⟨wz, hb2⟩, hwz⟩
          change wx = wz at hwz
          subst hwz
          replace HB := Lib.hid (HB.out.trans (hb2.mono HB.out.size))
          replace HO1 := Lib.hid (row_up HO1.out hb2)
          replace HO2 := Lib.hid (row_up HO2.out hb2)
          replace KC := Lib.hid (KC.out.up hb2)
          clear qa0 qa1 qa2 qa3 qb0 qb1 qb2 qb3 qb4 hb2
          go_wp2_with fail
          go_roundw
          case rel =>
            refine ⟨k + 1, n1 + 1, n2, by omega, by omega, by omega, by go_num, ?_, ?_, DI, HB, KC⟩
            · show World.ownsRow _ _ _ _ _ _ _; rw [HS1.out]; simpa using HO1.out
            · show World.ownsRow _ _ _ _ _ _ _; rw [HS2.out]; simpa using HO2.out
          case measure => simp [intOf]; omega

        ·
          go_upto_region 9 with fail
          obtain ⟨a0, a1, a2, a3⟩ := HA0.out.up HB.out
          obtain ⟨b0, b1, b2, b3, b4⟩ := KC.out
          simp only at a0 a1 a2 a3 b0 b1 b2 b3 b4
          have qa0 := fun X : BW wr => upc a0 X.same
          have qa1 := fun X : BW wr => upc a1 X.same
          have qa2 := fun X : BW wr => upc a2 X.same
          have qa3 := fun X : BW wr => upc a3 X.same
          have qb0 := fun X : BW wr => upc b0 X.same
          have qb1 := fun X : BW wr => upc b1 X.same
          have qb2 := fun X : BW wr => upc b2 X.same
          have qb3 := fun X : BW wr => upc b3 X.same
          have qb4 := fun X : BW wr => upc b4 X.same
          clear a0 a1 a2 a3 b0 b1 b2 b3 b4
          refine wp_region_quietB (by kernel_rfl) (by kernel_rfl) ?_
          repeat (go_big_quiet_step ((go_at_call 38; exact quietB (H38.out _))))
          refine wpQuiet_nil ?_
          rintro wy ⟨⟨wz, hb2⟩, hwz⟩
          change wy = wz at hwz
          subst hwz
          replace HB := Lib.hid (HB.out.trans (hb2.mono HB.out.size))
          replace HO1 := Lib.hid (row_up HO1.out hb2)
          replace HO2 := Lib.hid (row_up HO2.out hb2)
          replace KC := Lib.hid (KC.out.up hb2)
          clear qa0 qa1 qa2 qa3 qb0 qb1 qb2 qb3 qb4 hb2
          have hzy := HB.out.size
          have hkb := lt_cell KC.out.1
          have KM := Lib.hid (HO1.out.alloc (.cells #[.int .i64 k] 3))
          have KO := Lib.hid (HO2.out.alloc (.cells #[.int .i64 k] 3))
          have B2 := Lib.hid (HB.out.alloc hzy (.cells #[.int .i64 k] 3))
          have KD := Lib.hid (KC.out.up ((Below.refl _ _).alloc (Nat.le_refl _) (.cells #[.int .i64 k] 3)))
          go_upto_region 11 with (at_builtin; refine wpList_append_own_at _ rfl _ _ 29 rfl (w.heap.size + 1) 3 i0 _ 1 8 Try.underlying29 hi hz0 hz1 hz2 rfl (by decide) _ _ _ rfl KM.out ⟨wy.heap.size, 0, none⟩ 1 1 [pv k] rfl rfl (cell_one_new _ _ _) (by simp [Value.oneCell']) (by unfold maxLen; omega) (by omega) (by simp; omega) ?_; intro v' w5 hown hgrow hnn hat; replace HB := Lib.hid (B2.out.grown hgrow (by simp; omega) (fun j hj => by have := (ownBlock_ge KM.out hj).1; omega)); replace HO1 := Lib.hid hown; replace HO2 := Lib.hid (KO.out.kept hgrow (DI.out.flip)); replace KC := Lib.hid (KD.out.grown KM.out hgrow (fun e' => by have := (ownBlock_ge KM.out e').1; omega)); replace DI := Lib.hid (dis_app1 DI.out hat (fun j hj => (KO.out.lt j hj).2)); clear hown hgrow hnn hat)
          clear KM KO B2 KD hkb
          obtain ⟨a0, a1, a2, a3⟩ := HA0.out.up HB.out
          obtain ⟨b0, b1, b2, b3, b4⟩ := KC.out
          simp only at a0 a1 a2 a3 b0 b1 b2 b3 b4
          have qa0 := fun X : BW w5 => upc a0 X.same
          have qa1 := fun X : BW w5 => upc a1 X.same
          have qa2 := fun X : BW w5 => upc a2 X.same
          have qa3 := fun X : BW w5 => upc a3 X.same
          have qb0 := fun X : BW w5 => upc b0 X.same
          have qb1 := fun X : BW w5 => upc b1 X.same
          have qb2 := fun X : BW w5 => upc b2 X.same
          have qb3 := fun X : BW w5 => upc b3 X.same
          have qb4 := fun X : BW w5 => upc b4 X.same
          clear a0 a1 a2 a3 b0 b1 b2 b3 b4
          refine wp_region_quietB (by kernel_rfl) (by kernel_rfl) ?_
          repeat (go_big_quiet_step ((go_at_call 39; exact quietB (H39.out _))))
          refine wpQuiet_nil ?_
          rintro wx ⟨⟨wz, hb2⟩, hwz⟩
          change wx = wz at hwz
          subst hwz
          replace HB := Lib.hid (HB.out.trans (hb2.mono HB.out.size))
          replace HO1 := Lib.hid (row_up HO1.out hb2)
          replace HO2 := Lib.hid (row_up HO2.out hb2)
          replace KC := Lib.hid (KC.out.up hb2)
          clear qa0 qa1 qa2 qa3 qb0 qb1 qb2 qb3 qb4 hb2
          have hzy := HB.out.size
          have hkb := lt_cell KC.out.1
          have KM := Lib.hid (HO2.out.alloc (.cells #[.int .i64 k] 3))
          have KO := Lib.hid (HO1.out.alloc (.cells #[.int .i64 k] 3))
          have B2 := Lib.hid (HB.out.alloc hzy (.cells #[.int .i64 k] 3))
          have KD := Lib.hid (KC.out.up ((Below.refl _ _).alloc (Nat.le_refl _) (.cells #[.int .i64 k] 3)))
          go_wp2_with (at_builtin; refine wpList_append_own_at _ rfl _ _ 29 rfl (w.heap.size + 1) 3 i0 _ 1 8 Try.underlying29 hi hz0 hz1 hz2 rfl (by decide) _ _ _ rfl KM.out ⟨wx.heap.size, 0, none⟩ 1 1 [pv k] rfl rfl (cell_one_new _ _ _) (by simp [Value.oneCell']) (by unfold maxLen; omega) (by omega) (by simp; omega) ?_; intro v' w5 hown hgrow hnn hat; replace HB := Lib.hid (B2.out.grown hgrow (by simp; omega) (fun j hj => by have := (ownBlock_ge KM.out hj).1; omega)); replace HO2 := Lib.hid hown; replace HO1 := Lib.hid (KO.out.kept hgrow (DI.out)); replace KC := Lib.hid (KD.out.grown KM.out hgrow (fun e' => by have := (ownBlock_ge KM.out e').1; omega)); replace DI := Lib.hid (dis_app2 DI.out hat (fun j hj => (KO.out.lt j hj).2)); clear hown hgrow hnn hat)
          clear KM KO B2 KD hkb
          go_roundw
          case rel =>
            refine ⟨k + 1, n1 + 1, n2 + 1, by omega, by omega, by omega, by go_num, ?_, ?_, DI, HB, KC⟩
            · show World.ownsRow _ _ _ _ _ _ _; rw [HS1.out]; simpa using HO1.out
            · show World.ownsRow _ _ _ _ _ _ _; rw [HS2.out]; simpa using HO2.out
          case measure => simp [intOf]; omega

      · obtain rfl : k = l.length := by omega
        obtain ⟨A1, c1, hu1⟩ := row_shape HO1.out
        obtain ⟨A2, c2, hu2⟩ := row_shape HO2.out
        subst hu1 hu2
        have hfin : PrC ⟨f, t, s', e, p⟩ n team l w (.returned (.tuple #[.slice A1 n1 c1, .slice A2 n2 c2, .int .i64 0])) wr := by
          refine ⟨⟨A1, n1, c1, A2, n2, c2, by rw [HEE.out], ?_, ?_⟩, HB.out⟩
          · unfold prK
            rw [if_pos HEE.out]
            exact ownN_base (ownN_of_row HO1.out)
          · unfold prF
            rw [if_pos HEE.out]
            exact ownN_base (ownN_of_row HO2.out)
        have HFIN := Lib.hid hfin
        clear hfin HO1 HO2 DI HEE
        go_wp2_with fail
        exact bodyPost_ret (v := .tuple #[.slice A1 n1 c1, .slice A2 n2 c2, .int .i64 0]) (by simp [results, Try.results12, go_sem]) rfl HFIN.out
  all_goals
    have HEE := HE.out
    simp only [Bool.and_self, Bool.and_true, Bool.and_false, if_true, if_false, Bool.false_eq_true] at HEE
    have HE2 := Lib.hid HEE
    clear HE HEE H16
    go_enter Try.func12, Try.ntmps12
    go_wp2_with (first
      | (go_at_call 14; (with_reducible refine (H13.out _).mono ?_); rintro e w1 ⟨rfl, hb1⟩; replace B := Lib.hid (B.out.trans (hb1.mono B.out.size)); clear hb1)
      | (go_at_call 22; (with_reducible refine (H32.out _ B.out).mono ?_); rintro e w1 ⟨rfl, hb1⟩; replace B := Lib.hid (B.out.trans (hb1.mono B.out.size)); clear hb1)
      | (go_at_call 37; (with_reducible refine (H33.out _).mono ?_); rintro e w1 ⟨rfl, rfl⟩)
      | (go_at_call 37; (with_reducible refine (H34.out _).mono ?_); rintro e w1 ⟨rfl, rfl⟩))
    first
      | exact bodyPost_ret (v := .tuple #[.slice none 0 0, .slice none 0 0, .int .i64 2]) (by simp [results, Try.results12, go_sem]) rfl (PrC.no HE2.out (by decide) B.out)
      | exact bodyPost_ret (v := .tuple #[.slice none 0 0, .slice none 0 0, .int .i64 4]) (by simp [results, Try.results12, go_sem]) rfl (PrC.no HE2.out (by decide) B.out)
end Go.Proofs.Ytomcpgdpjpjioaa
