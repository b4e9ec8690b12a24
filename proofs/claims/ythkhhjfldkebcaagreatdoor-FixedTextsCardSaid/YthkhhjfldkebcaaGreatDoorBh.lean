/- Contract: over. -/
import Derived.Test.YthkhhjfldkebcaaGreatDoorBg
import Derived.Laws.AppendOwnNone
namespace Go.Proofs.YthkhhjfldkebcaaGreatDoor
open Go.RowKit Go.Proofs Go.Shelf

/-- append of a number's parts, nil or not. -/
theorem wpList_append_big {ops : Array Oper} {rest : List Oper} {o : Oper} {a : Act} {Q : Exit → Act → World → Prop} (w : World) (hgd : o.guard = none) (s x : Operand)
    (ho : o.op = .call { callee := .builtin .append, args := #[s, x], argTypes := #[96, 96] }) (base : Nat) (v : Value) (n : Nat) (xs : List Value) (hs : a.eval s = v) (hown : w.ownsRow base 3 1 v n xs)
    (vx : Value) (l : List Nat) (hx : a.eval x = vx) (hb : Big w vx l) (h63 : n + l.length ≤ 1000) (hbase : base ≤ w.heap.size)
    (h : ∀ v' w', w'.ownsRow base 3 1 v' (n + l.length) (xs ++ l.map pv) → w.grownBy w' v.ownBlock → wpList Tryz.prog ops Q rest (a.put o.dst v') w') : wpList Tryz.prog ops Q (o :: rest) a w := by
  obtain ⟨i0, hi, hz0, hz1, hz2⟩ := info_parts Tryz.info3
  obtain ⟨A, cap, rfl, h1, ⟨h2, h3⟩, h4⟩ := hb
  rcases A with _ | ad
  · obtain rfl := h3 rfl
    have hl : l = [] := by
      by_cases hl : l = []
      · exact hl
      · obtain ⟨g, hg, -⟩ := h4 hl; cases hg
    subst hl
    exact wpList_append_own_none hgd s x 96 ho base 3 i0 1 Tryz.underlying96 hi v n xs hs hown hx (h v w (by simpa using hown) (World.grownBy.refl w _))
  · refine wpList_append_own w hgd s x 96 ho base 3 i0 (.int .i64 0) 1 8 Tryz.underlying96 hi hz0 hz1 hz2 rfl (by decide) v n xs hs hown ad l.length cap (l.map pv) hx (by simp) ?_ ?_ (by unfold maxLen; omega) (by omega) hbase (fun v' w' k1 k2 _ => h v' w' k1 k2)
    · intro j u hj
      rw [List.getElem?_map] at hj
      rcases Nat.lt_or_ge j l.length with hlt | hge
      · obtain ⟨g, hg, hc⟩ := h4 (by intro h0; subst h0; simp at hlt)
        obtain rfl := Option.some.inj hg
        rw [List.getElem?_eq_getElem hlt] at hj
        obtain rfl := Option.some.inj hj
        have := hc j hlt
        rw [List.getD_eq_getElem?_getD, List.getElem?_eq_getElem hlt] at this
        have e : (⟨g, 0, none⟩ : Addr).add j = ⟨g, j, none⟩ := by unfold Addr.add; split <;> simp_all
        rw [e]; exact this
      · rw [List.getElem?_eq_none hge] at hj; cases hj
    · intro u hu
      obtain ⟨d, -, rfl⟩ := List.mem_map.1 hu
      rfl
theorem BigN.setCell {w : World} {v : Value} {N : Nat} (h : BigN w v N) (p : Addr) (u : Value) (hp : ∀ k, v.ownBlock = some k → k ≠ p.block) : BigN (w.setCell p u) v N := by
  obtain ⟨l, ⟨A, cap, rfl, h1, h2, h3⟩, hc, hv⟩ := h
  refine ⟨l, ⟨A, cap, rfl, h1, h2, fun hl => ?_⟩, hc, hv⟩
  obtain ⟨g, rfl, hcell⟩ := h3 hl
  refine ⟨g, rfl, fun j hj => ?_⟩
  rw [World.cell?_setCell_other _ _ _ _ (by rintro rfl; exact hp g rfl rfl)]
  exact hcell j hj
theorem BigN.form {w : World} {v : Value} {N : Nat} (h : BigN w v N) : ∃ A n cap, v = .slice A n cap := by
  obtain ⟨l, ⟨A, cap, rfl, -⟩, -⟩ := h
  exact ⟨A, _, cap, rfl⟩
/-- A call that gives back two numbers. -/
def OverOut (w : World) (Q R : Nat) (e : Ending) (w' : World) : Prop := ∃ q r, e = .returned (.tuple #[q, r]) ∧ BigN w' q Q ∧ BigN w' r R ∧ Below w.heap.size w w'
theorem order_lt (va vb : Value) (A B : Nat) (w : World) (ha : BigN w va A) (hb : BigN w vb B) (la : Lim A) (lb : Lim B) (h : A < B) : Calls Tryz.prog 96 #[va, vb] w fun e w' => e = .returned (.int .i64 (-1)) ∧ Below w.heap.size w w' := by
  have := order_N va vb A B w ha hb la lb
  rwa [show cmpI A B = -1 by unfold cmpI; rw [if_pos (by omega)]] at this
theorem order_ge (va vb : Value) (A B : Nat) (w : World) (ha : BigN w va A) (hb : BigN w vb B) (la : Lim A) (lb : Lim B) (h : B ≤ A) : ∃ c : Int, 0 ≤ c ∧ ∀ W, W = w → Calls Tryz.prog 96 #[va, vb] W fun e w' => e = .returned (.int .i64 c) ∧ Below W.heap.size W w' := by
  refine ⟨cmpI A B, by unfold cmpI; split <;> (try split) <;> omega, ?_⟩
  rintro _ rfl
  exact order_N va vb A B _ ha hb la lb
theorem cmp_ge {A B : Nat} (h : B ≤ A) : 0 ≤ cmpI A B := by unfold cmpI; split <;> (try split) <;> omega
theorem cmp_le {A B : Nat} (h : A ≤ B) : cmpI A B ≤ 0 := by unfold cmpI; split <;> (try split) <;> omega
theorem cmp_gt {A B : Nat} (h : B < A) : cmpI A B = 1 := by unfold cmpI; rw [if_neg (by omega), if_pos (by omega)]

/-- A round of the inner loop of over. -/
theorem over_inner {p s j B R : Nat} (hs : s = 2 ^ j / 2) (hs0 : 0 < s) (h2 : R < (p + 2 ^ j) * B) (h3 : p + 2 ^ j ≤ 32768) :
    ∃ j', s / 2 = 2 ^ j' / 2 ∧ (B * (p + s) ≤ R → (p + s) * B ≤ R ∧ R < (p + s + 2 ^ j') * B ∧ p + s + 2 ^ j' ≤ 32768) ∧ (R < B * (p + s) → R < (p + 2 ^ j') * B ∧ p + 2 ^ j' ≤ 32768) := by
  rcases j with _ | j
  · simp at hs; omega
  · have e : 2 ^ (j + 1) / 2 = 2 ^ j := by rw [Nat.pow_succ]; omega
    rw [e] at hs
    subst hs
    refine ⟨j, rfl, fun h => ?_, fun h => ?_⟩
    · rw [Nat.pow_succ] at h2 h3
      refine ⟨by rw [Nat.mul_comm]; exact h, ?_, by omega⟩
      rw [show p + 2 ^ j + 2 ^ j = p + 2 ^ j * 2 by omega]; exact h2
    · rw [Nat.pow_succ] at h3
      exact ⟨by rw [Nat.mul_comm]; exact h, by omega⟩
/-- A round of the outer loop of over. -/
theorem over_outer {q a : List Nat} {k B R R1 p x n : Nat} (hq : q.length = n) (hk : k < n) (ha : a.length = n) (hx : a.getD k 0 = x) (h : bval (q.drop (k + 1)) * B + R = bval (a.drop (k + 1))) (hR : R1 = x + 32768 * R)
    (h1 : p * B ≤ R1) : bval ((q.set k p).drop k) * B + (R1 - B * p) = bval (a.drop k) := by
  rw [bval_drop (l := a) (by omega), bval_drop (l := q.set k p) (by rw [List.length_set]; omega), getD_set _ _ _ _ (by omega), if_pos rfl, List.drop_set_of_lt (by omega), hx, ← h]
  generalize bval (q.drop (k + 1)) = Q at *
  have e : (p + 32768 * Q) * B = p * B + 32768 * (Q * B) := by grind
  rw [e, Nat.mul_comm B p]
  omega

set_option maxHeartbeats 8000000 in
theorem over_N (va vb : Value) (A B : Nat) (w : World) (ha : BigN w va A) (hb : BigN w vb B) (la : Lim A) (lb : Lim (32768 * B)) (hB : 0 < B) :
    Calls Tryz.prog 129 #[va, vb] w (OverOut w (A / B) (A % B)) := by
  obtain ⟨a, ⟨XA, capa, rfl, -, -, h3⟩, ca, rfl⟩ := ha
  have HBN := Lib.hid hb
  obtain ⟨XB, nb, capb, rfl⟩ := hb.form
  have H3 := Lib.hid h3
  have CA := Lib.hid ca
  have LB := Lib.hid lb
  have LB1 : Hid (Lim B) := lb.le (by omega)
  have HB0 := Lib.hid hB
  have hlen := ca.lim la
  obtain ⟨n, hn⟩ : ∃ n, a.length = n := ⟨_, rfl⟩
  have HNA := Lib.hid hn
  rw [hn] at hlen ⊢
  clear h3 ca lb hB hn hb la
  have hmk : ∀ W, (Instr.makeSlice 96 (.int .i64 (n : Int)) (.int .i64 (n : Int))).run Tryz.prog W = .ok (.slice (some ⟨W.heap.size, 0, none⟩) n n) (W.alloc (.cells (madeCells #[.int .i64 0] n) 3)) := fun W =>
    run_make_row' (P := Tryz.prog) 96 3 (.int .i64 0) 8 Tryz.underlying96 Tryz.info3 rfl .i64 .i64 n (by omega) (by omega) W
  obtain ⟨C0, hC0⟩ : ∃ C, madeCells #[.int .i64 0] n = C := ⟨_, rfl⟩
  have R0 : Hid (RowN (w.alloc (.cells C0 3)) w.heap.size (List.replicate n 0)) := by rw [← hC0]; exact RowN.made w n
  rw [hC0] at hmk
  clear hC0
  go_enter Tryz.func129, Tryz.ntmps129
  go_wp2_with fail
  clear hmk
  go_loopw [7, 8] (fun rv iv wr => ∃ (k R : Nat) (q : List Nat), iv = .int .i64 ((k : Int) - 1) ∧ k ≤ n ∧ Hid (BigN wr rv R) ∧ Hid (RowN wr w.heap.size q) ∧ Hid (q.length = n) ∧ Hid (Parts q) ∧ Hid (bval (q.drop k) * B + R = bval (a.drop k)) ∧ Hid (R < B) ∧ Below w.heap.size w wr)
    (fun _ iv _ => (intOf iv + 1).toNat)
  case atStart => exact ⟨n, 0, List.replicate n 0, rfl, Nat.le_refl _, BigN.nil _, R0.out, by show _ = _; simp, Parts.replicate _, by show _ = _; rw [List.drop_eq_nil_of_le (by simp), List.drop_eq_nil_of_le (by rw [HNA.out]; exact Nat.le_refl _)]; simp [bval], HB0.out, (Below.refl _ _).alloc (Nat.le_refl _) _⟩
  case round =>
    obtain ⟨k, R, q, rfl, hk, hrest, hrow, hqlen, hpq, hval, hRB, hbl⟩ := hrel
    obtain ⟨wo, hwo⟩ : ∃ wo : World, wo = wr := ⟨_, rfl⟩
    subst hwo
    have HBL := Lib.hid hbl
    rcases k with _ | k
    · have hv := hval.out
      rw [List.drop_zero, List.drop_zero] at hv
      have HV := Lib.hid hv
      have HO := Lib.hid (hrow.out.big hqlen.out (by unfold maxLen; omega))
      have HT := Lib.hid (fun v w' (h : Big w' v q) => trim_any v q w' h hpq.out (by rw [hqlen.out]; omega))
      obtain ⟨Xr, nr, capr, hr⟩ := hrest.out.form
      subst hr
      clear hv hbl
      go_wp2_with (go_at_call 139; refine (HT.out _ _ HO.out).mono ?_; rintro e w1 ⟨v, rfl, hN, hb1⟩; obtain ⟨Xv, nv, capv, rfl⟩ := hN.form)
      go_ret2
      have hdm : bval q = bval a / B ∧ R = bval a % B := by
        have h1 := HV.out
        have h2 := hRB.out
        rw [← h1, Nat.mul_comm (bval q) B]
        exact ⟨by rw [Nat.mul_add_div HB0.out, Nat.div_eq_of_lt h2, Nat.add_zero], by rw [Nat.mul_add_mod, Nat.mod_eq_of_lt h2]⟩
      exact ⟨_, _, rfl, by rw [← hdm.1]; exact hN, by rw [← hdm.2]; exact hrest.out.up hb1, HBL.out.trans (hb1.mono HBL.out.size)⟩
    · obtain ⟨g1, rfl, hcell⟩ := H3.out (by intro h0; have := HNA.out; rw [h0] at this; simp at this; omega)
      have cell1 := upc (hcell k (by rw [HNA.out]; omega)) hbl
      have x1 := CA.out.1.get k
      obtain ⟨x, hx⟩ : ∃ x, a.getD k 0 = x := ⟨_, rfl⟩
      rw [hx] at cell1 x1
      have HX := Lib.hid hx
      clear hx hcell
      obtain ⟨lr, hbig, cr, hR⟩ := hrest.out
      have HBG := Lib.hid hbig
      have HCR := Lib.hid cr
      have HR := Lib.hid hR
      obtain ⟨Xr, capr, rfl, -⟩ := hbig
      have hlr : lr.length ≤ 16 := cr.lim (by rw [hR]; exact LB1.out.le (Nat.le_of_lt hRB.out))
      clear cr hR
      have ek : ((k + 1 : Nat) : Int) - 1 = (k : Int) := by omega
      rw [ek]
      clear ek
      have hkn : (k : Int) < (n : Int) := by omega
      have hown : Hid ((wo.alloc (.cells #[.int .i64 (x : Int)] 3)).ownsRow wo.heap.size 3 1 (.slice (some ⟨wo.heap.size, 0, none⟩) 1 1) 1 [.int .i64 (x : Int)]) :=
        World.ownsRow_lit wo #[.int .i64 (x : Int)] 1 (Nat.le_refl _) (by unfold maxLen; omega) rfl
      obtain ⟨R1, hR1⟩ : ∃ R1, x + 32768 * R = R1 := ⟨_, rfl⟩
      have hR1B : R1 < 32768 * B := by have := hRB.out; omega
      have HR1 := Lib.hid hR1
      have HR1B := Lib.hid hR1B
      have LR1 : Hid (Lim R1) := LB.out.le (Nat.le_of_lt hR1B)
      have HT := Lib.hid (fun v w' (h : Big w' v (x :: lr)) => trim_own v (x :: lr) w' h (HCR.out.1.cons x1) (by simp; omega))
      have hvl : Hid (bval (x :: lr) = R1) := by show _ = _; rw [← hR1, ← HR.out]; rfl
      clear hR1 hR1B
      go_upto_region 9 with (first
        | (at_builtin; refine wpList_append_big _ rfl _ _ rfl wo.heap.size _ 1 _ rfl hown.out _ lr rfl (HBG.out.alloc _) (by omega) (by simp) ?_; intro v1 w1 hown1 hgrow1)
        | (go_at_call 139; refine (HT.out _ _ (Big.of_own (by simpa [pv, Nat.add_comm] using hown1))).mono ?_; rintro e w2 ⟨v2, rfl, hN2, hob, rfl⟩))
      have B2 : Hid (Below wo.heap.size wo w1) := ((Below.refl _ _).alloc (Nat.le_refl _) _).grown hgrow1 (by simp) (fun j hj => (hown.out.lt j hj).1)
      have OB : Hid (∀ k, v2.ownBlock = some k → wo.heap.size ≤ k) := fun k hk => (hown1.lt k (hob ▸ hk)).1
      rw [hvl.out] at hN2
      have HN2 := Lib.hid hN2
      obtain ⟨X2, nb2, cap2, rfl⟩ := hN2.form
      clear hown1 hgrow1 hob hN2 hbl cell1
      go_loopw [9, 10] (fun pvv sv wr => ∃ (p s j : Nat), pvv = .int .i64 p ∧ sv = .int .i64 s ∧ s ≤ 16384 ∧ p ≤ 32768 ∧ Hid (s = 2 ^ j / 2) ∧ Hid (p * B ≤ R1) ∧ Hid (R1 < (p + 2 ^ j) * B) ∧ Hid (p + 2 ^ j ≤ 32768) ∧ Below w1.heap.size w1 wr)
        (fun _ sv _ => (intOf sv).toNat)
      case atStart => exact ⟨0, 16384, 15, rfl, rfl, by omega, by omega, by show _ = _; decide, by show _ ≤ _; omega, by show _ < _; have := HR1B.out; omega, by show _ ≤ _; omega, Below.refl _ _⟩
      case round =>
        obtain ⟨p, s, j, rfl, rfl, hs, hp, hj, h1, h2, h3, hbi⟩ := hrel
        have HBI := Lib.hid hbi
        have NB : Hid (BigN wr (.slice XB nb capb) B) := (HBN.out.up (HBL.out.trans (B2.out.mono HBL.out.size))).up (hbi.mono (by have := B2.out.size; have := HBL.out.size; omega))
        have N2 : Hid (BigN wr (.slice X2 nb2 cap2) R1) := HN2.out.up hbi
        by_cases hgo : 0 < s ∧ B ≤ R1
        · obtain ⟨hs0, hge⟩ := hgo
          have hs0' : (0 : Int) < (s : Int) := by omega
          obtain ⟨j', e1, e2, e3⟩ := over_inner hj.out hs0 h2.out h3.out
          obtain ⟨c, hc⟩ : ∃ c, cmpI (R1 : Nat) (B : Nat) = c := ⟨_, rfl⟩
          have hc0 : 0 ≤ c := by rw [← hc]; exact cmp_ge hge
          have HC := Lib.hid hc
          have E1 := Lib.hid e1; have E2 := Lib.hid e2; have E3 := Lib.hid e3
          clear hc e1 e2 e3 hbi
          have hpB : Hid (B * (p + s) ≤ 32768 * B) := by
            show _ ≤ _
            rw [Nat.mul_comm 32768 B]
            exact Nat.mul_le_mul_left _ (by
              have := h3.out; have := hj.out
              have : 2 ^ j / 2 ≤ 2 ^ j := Nat.div_le_self _ _
              omega)
          have OFC : Hid (∀ w, Calls Tryz.prog 72 #[.int .i64 ((p : Int) + (s : Int))] w (BigOut w (p + s))) := fun w => by
            have := of_nat (p + s) w (by omega)
            rwa [Int.natCast_add] at this
          by_cases hle : B * (p + s) ≤ R1
          · obtain ⟨d, hd⟩ : ∃ d, cmpI ((B * (p + s) : Nat)) (R1 : Nat) = d := ⟨_, rfl⟩
            have hd0 : d ≤ 0 := by rw [← hd]; exact cmp_le hle
            have HD := Lib.hid hd
            have HLE := Lib.hid hle
            clear hd hle
            go_upto_region 11 with (go_at_call 96; refine (order_N _ _ R1 B _ N2.out NB.out LR1.out LB1.out).mono ?_; rintro e w3 ⟨rfl, hb3⟩; rw [HC.out])
            go_wp2_with (first
              | (go_at_call 72; refine (OFC.out _).mono ?_; rintro e w4 ⟨v4, rfl, hN4, hb4⟩; have HN4 := Lib.hid hN4; obtain ⟨X4, n4, cap4, rfl⟩ := hN4.form; clear hN4)
              | (go_at_call 102; refine (times_N _ _ B _ _ ((NB.out.up hb3).up hb4) HN4.out LB1.out (lim_of (k := 20) (by omega) (by decide))).mono ?_; rintro e w5 ⟨v5, rfl, hN5, hb5⟩; have HN5 := Lib.hid hN5; obtain ⟨X5, n5, cap5, rfl⟩ := hN5.form; clear hN5)
              | (go_at_call 96; refine (order_N _ _ _ R1 _ HN5.out (((N2.out.up hb3).up hb4).up hb5) (LB.out.le hpB.out) LR1.out).mono ?_; rintro e w6 ⟨rfl, hb6⟩; rw [HD.out]))
            have BB : Hid (Below w1.heap.size w1 w6) := (((HBI.out.trans (hb3.mono HBI.out.size)).trans (hb4.mono (Nat.le_trans HBI.out.size hb3.size))).trans (hb5.mono (Nat.le_trans HBI.out.size (Nat.le_trans hb3.size hb4.size)))).trans (hb6.mono (Nat.le_trans HBI.out.size (Nat.le_trans hb3.size (Nat.le_trans hb4.size hb5.size))))
            go_roundw
            case rel => exact ⟨p + s, s / 2, j', by go_num, by go_num, by omega, Nat.le_trans (Nat.le_add_right _ _) (E2.out HLE.out).2.2, E1.out, (E2.out HLE.out).1, (E2.out HLE.out).2.1, (E2.out HLE.out).2.2, BB.out⟩
            case measure => first | (simp [intOf]; done) | (simp [intOf]; omega)
          · have hd1 : Hid (cmpI ((B * (p + s) : Nat)) (R1 : Nat) = 1) := cmp_gt (by omega)
            have HLT : Hid (R1 < B * (p + s)) := by show _ < _; omega
            clear hle
            go_upto_region 11 with (go_at_call 96; refine (order_N _ _ R1 B _ N2.out NB.out LR1.out LB1.out).mono ?_; rintro e w3 ⟨rfl, hb3⟩; rw [HC.out])
            go_wp2_with (first
              | (go_at_call 72; refine (OFC.out _).mono ?_; rintro e w4 ⟨v4, rfl, hN4, hb4⟩; have HN4 := Lib.hid hN4; obtain ⟨X4, n4, cap4, rfl⟩ := hN4.form; clear hN4)
              | (go_at_call 102; refine (times_N _ _ B _ _ ((NB.out.up hb3).up hb4) HN4.out LB1.out (lim_of (k := 20) (by omega) (by decide))).mono ?_; rintro e w5 ⟨v5, rfl, hN5, hb5⟩; have HN5 := Lib.hid hN5; obtain ⟨X5, n5, cap5, rfl⟩ := hN5.form; clear hN5)
              | (go_at_call 96; refine (order_N _ _ _ R1 _ HN5.out (((N2.out.up hb3).up hb4).up hb5) (LB.out.le hpB.out) LR1.out).mono ?_; rintro e w6 ⟨rfl, hb6⟩; rw [hd1.out]))
            have BB : Hid (Below w1.heap.size w1 w6) := (((HBI.out.trans (hb3.mono HBI.out.size)).trans (hb4.mono (Nat.le_trans HBI.out.size hb3.size))).trans (hb5.mono (Nat.le_trans HBI.out.size (Nat.le_trans hb3.size hb4.size)))).trans (hb6.mono (Nat.le_trans HBI.out.size (Nat.le_trans hb3.size (Nat.le_trans hb4.size hb5.size))))
            go_roundw
            case rel => exact ⟨p, s / 2, j', by go_num, by go_num, by omega, by omega, E1.out, h1, (E3.out HLT.out).1, (E3.out HLT.out).2, BB.out⟩
            case measure => first | (simp [intOf]; done) | (simp [intOf]; omega)
        · have hex : Hid (p * B ≤ R1 ∧ R1 < (p + 1) * B) := by
            refine ⟨h1.out, ?_⟩
            by_cases hs0 : 0 < s
            · have hlt : R1 < B := by
                rcases Nat.lt_or_ge R1 B with h | h
                · exact h
                · exact absurd ⟨hs0, h⟩ hgo
              have : 1 * B ≤ (p + 1) * B := Nat.mul_le_mul_right _ (by omega)
              omega
            · have hj0 := hj.out
              have : j = 0 := by
                rcases j with _ | j
                · rfl
                · rw [Nat.pow_succ, Nat.mul_div_cancel _ (by decide)] at hj0
                  have := Nat.pow_pos (n := j) (show 0 < 2 by decide)
                  omega
              subst this
              simpa using h2.out
          have hp1 : Hid (p < 32768) := by
            show _ < _
            have h5 := h1.out
            have h6 := HR1B.out
            rcases Nat.lt_or_ge p 32768 with h | h
            · exact h
            · exfalso
              have : 32768 * B ≤ p * B := Nat.mul_le_mul_right _ h
              omega
          have hsplit : s = 0 ∨ (0 < s ∧ R1 < B) := by
            rcases Nat.eq_zero_or_pos s with h | h
            · exact .inl h
            · right; exact ⟨h, by
                rcases Nat.lt_or_ge R1 B with h' | h'
                · exact h'
                · exact absurd ⟨h, h'⟩ hgo⟩
          have OFP : Hid (∀ w, Calls Tryz.prog 72 #[.int .i64 (p : Int)] w (BigOut w p)) := fun w => of_nat p w (by omega)
          have HROW : Hid (RowN wr w.heap.size q) := (hrow.out.up B2.out).up hbi
          have HWW : Hid (∀ W, Below wr.heap.size wr W → Below w.heap.size w W) := fun W hW => (HBL.out.trans ((B2.out.trans ((hbi.mono B2.out.size).trans (hW.mono (Nat.le_trans B2.out.size hbi.size)))).mono HBL.out.size))
          have HREL : Hid (∀ (W : World) (v : Value), BigN W v (R1 - B * p) → RowN W w.heap.size (q.set k p) → Below w.heap.size w W → ∃ (k' R' : Nat) (q' : List Nat), Value.int .i64 ((k : Int) - 1) = .int .i64 ((k' : Int) - 1) ∧ k' ≤ n ∧ Hid (BigN W v R') ∧ Hid (RowN W w.heap.size q') ∧ Hid (q'.length = n) ∧ Hid (Parts q') ∧ Hid (bval (q'.drop k') * B + R' = bval (a.drop k')) ∧ Hid (R' < B) ∧ Below w.heap.size w W) := by
            intro W v hv hr hb
            refine ⟨k, R1 - B * p, q.set k p, rfl, by omega, hv, hr, by show _ = _; rw [List.length_set]; exact hqlen.out, hpq.out.set _ hp1.out, ?_, ?_, hb⟩
            · exact over_outer hqlen.out (by omega) HNA.out HX.out hval.out HR1.out.symm hex.out.1
            · show _ < _
              have := hex.out
              rw [Nat.add_mul] at this
              rw [Nat.mul_comm B p]
              omega
          have hkq : k < q.length := by rw [hqlen.out]; omega
          clear hgo h1 h2 h3 hj
          have hGo : w.heap.size < wo.heap.size := World.rowIs.lt hrow.out
          have TAIL : Hid (∀ W, Below wr.heap.size wr W → (W.cell? ⟨w.heap.size, k, none⟩ = some (pv (q.getD k 0)) ∧ W.frozen? ⟨w.heap.size, k, none⟩ = false) ∧ RowN (W.setCell ⟨w.heap.size, k, none⟩ (.int .i64 p)) w.heap.size (q.set k p) ∧ Below w.heap.size w (W.setCell ⟨w.heap.size, k, none⟩ (.int .i64 p)) ∧
              BigN (W.setCell ⟨w.heap.size, k, none⟩ (.int .i64 p)) (.slice XB nb capb) B ∧ BigN (W.setCell ⟨w.heap.size, k, none⟩ (.int .i64 p)) (.slice X2 nb2 cap2) R1) := by
            intro W hW
            have rowW := HROW.out.up hW
            have bW := HWW.out W hW
            have bS := bW.setCell (p := ⟨w.heap.size, k, none⟩) (Nat.le_refl _) (.int .i64 p)
            exact ⟨⟨rowW.cell hkq, rowW.frozen k⟩, rowW.set hkq p, bS, HBN.out.up bS, (N2.out.up hW).setCell _ _ (fun m hm => by have := OB.out m hm; show m ≠ w.heap.size; omega)⟩
          clear hbi
          rcases hsplit with rfl | ⟨hs0, hlt⟩
          · obtain ⟨⟨rc, rf⟩, RS, BS, NBS, N2S⟩ := TAIL.out wr (Below.refl _ _)
            have RS' := Lib.hid RS; have BS' := Lib.hid BS; have NBS' := Lib.hid NBS; have N2S' := Lib.hid N2S
            clear RS BS NBS N2S TAIL
            go_wp2_with (first
              | (go_at_call 72; refine (OFP.out _).mono ?_; rintro e w4 ⟨v4, rfl, hN4, hb4⟩; have HN4 := Lib.hid hN4; obtain ⟨X4, n4, cap4, rfl⟩ := hN4.form; clear hN4)
              | (go_at_call 102; refine (times_N _ _ B _ _ (NBS'.out.up hb4) HN4.out LB1.out (lim_of (k := 20) (by omega) (by decide))).mono ?_; rintro e w5 ⟨v5, rfl, hN5, hb5⟩; have HN5 := Lib.hid hN5; obtain ⟨X5, n5, cap5, rfl⟩ := hN5.form; clear hN5)
              | (go_at_call 137; refine (minus_N _ _ R1 (B * p) _ ((N2S'.out.up hb4).up hb5) HN5.out LR1.out (by rw [Nat.mul_comm]; exact hex.out.1)).mono ?_; rintro e w6 ⟨v6, rfl, hN6, hb6⟩))
            go_roundw
            case rel => exact HREL.out _ _ hN6 (((RS'.out.up hb4).up hb5).up hb6) (((BS'.out.trans (hb4.mono BS'.out.size)).trans (hb5.mono (Nat.le_trans BS'.out.size hb4.size))).trans (hb6.mono (Nat.le_trans BS'.out.size (Nat.le_trans hb4.size hb5.size))))
            case measure => first | (simp [intOf]; done) | (simp [intOf]; omega)
          · have hs0' : (0 : Int) < (s : Int) := by omega
            go_upto_region 13 with (go_at_call 96; refine (order_lt _ _ R1 B _ N2.out NB.out LR1.out LB1.out hlt).mono ?_; rintro e w3 ⟨rfl, hb3⟩)
            obtain ⟨⟨rc, rf⟩, RS, BS, NBS, N2S⟩ := TAIL.out w3 hb3
            have RS' := Lib.hid RS; have BS' := Lib.hid BS; have NBS' := Lib.hid NBS; have N2S' := Lib.hid N2S
            clear RS BS NBS N2S TAIL hb3
            go_wp2_with (first
              | (go_at_call 72; refine (OFP.out _).mono ?_; rintro e w4 ⟨v4, rfl, hN4, hb4⟩; have HN4 := Lib.hid hN4; obtain ⟨X4, n4, cap4, rfl⟩ := hN4.form; clear hN4)
              | (go_at_call 102; refine (times_N _ _ B _ _ (NBS'.out.up hb4) HN4.out LB1.out (lim_of (k := 20) (by omega) (by decide))).mono ?_; rintro e w5 ⟨v5, rfl, hN5, hb5⟩; have HN5 := Lib.hid hN5; obtain ⟨X5, n5, cap5, rfl⟩ := hN5.form; clear hN5)
              | (go_at_call 137; refine (minus_N _ _ R1 (B * p) _ ((N2S'.out.up hb4).up hb5) HN5.out LR1.out (by rw [Nat.mul_comm]; exact hex.out.1)).mono ?_; rintro e w6 ⟨v6, rfl, hN6, hb6⟩))
            go_roundw
            case rel => exact HREL.out _ _ hN6 (((RS'.out.up hb4).up hb5).up hb6) (((BS'.out.trans (hb4.mono BS'.out.size)).trans (hb5.mono (Nat.le_trans BS'.out.size hb4.size))).trans (hb6.mono (Nat.le_trans BS'.out.size (Nat.le_trans hb4.size hb5.size))))
            case measure => first | (simp [intOf]; done) | (simp [intOf]; omega)
end Go.Proofs.YthkhhjfldkebcaaGreatDoor
