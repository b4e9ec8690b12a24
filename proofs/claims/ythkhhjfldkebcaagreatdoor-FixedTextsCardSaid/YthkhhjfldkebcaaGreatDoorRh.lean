/- Contract: the document's Read. -/
import Derived.Test.YthkhhjfldkebcaaGreatDoorRg
namespace Go.Proofs.YthkhhjfldkebcaaGreatDoor
open Go.RowKit Go.Proofs Go.Shelf

/-- What the document makes of the text behind the sign. -/
theorem doc_cases {s x : ByteArray} {how : Int} {neg : Bool} {R : Except Int Int} (hh : HowOk how) (hl : s.size ≤ 60) (hR : readR s.data.toList how = R)
    (hX : Lib.trimPrefix s.data.toList [45] = x.data.toList) (hn : Lib.hasPrefix s.data.toList [45] = neg) :
    (∃ p, Fm (byt x.data.toList) x.size p ∧ ∀ N T, N = rn (byt x.data.toList) p x.size * 65536 → T = rd p x.size →
      R = refFitR (sgn ((if N / T < 1152921504606846976 then ((N / T : Nat) : Int) else 0) + b2i (bump (119 + how.toNat) ((N % T : Nat) : Int) (T : Int) neg)) neg) (decide (N / T < 1152921504606846976))) ∨
    ((∀ p, ¬ Fm (byt x.data.toList) x.size p) ∧ R = .error 5) := by
  have e := Lib.size_eq x
  have hl' : s.data.toList.length ≤ 60 := by rw [← Lib.size_eq]; exact hl
  by_cases h : ∃ p, Fm (byt x.data.toList) x.size p
  · obtain ⟨p, hp⟩ := h
    refine .inl ⟨p, hp, fun N T hN hT => ?_⟩
    rw [← hR]
    rw [e] at hp hN hT
    exact readR_yes hh hl' hX hn hp hN hT
  · refine .inr ⟨fun p hp => h ⟨p, hp⟩, ?_⟩
    rw [← hR]
    rw [e] at h
    exact readR_no hh hl' hX (fun p hp => h ⟨p, hp⟩)

theorem BigN.drawn {w : World} {v : Value} {N : Nat} (h : BigN w v N) : BigN w.drew v N := h

set_option maxRecDepth 100000 in
set_option maxHeartbeats 4000000 in
theorem refRead_a (s : ByteArray) (how : Int) (w : World) (R : Except Int Int) (hh : HowOk how) (hl : s.size ≤ 60) (hR : readR s.data.toList how = R) (h0 : s.size = 0) (h1 : Lib.trimPrefix s.data.toList [45] = s.data.toList) (h2 : Lib.hasPrefix s.data.toList [45] = false) :
    Calls Tryz.prog 51 #[.string s, .int .i64 how] w fun e w' => e = .returned (.tuple #[.int .i64 (valE 0 R), .int .i64 (errE R)]) ∧ Below w.heap.size w w' := by
  have C1 : Hid (∀ w, Calls Tryz.prog 70 #[.int .i64 how] w fun e w' => e = .returned (.bool true) ∧ w = w') := fun w => by have := refHow how w; rwa [decide_eq_true hh] at this
  have hl' : ¬ (60 : Int) < (s.size : Int) := by omega
  have hxs := hl
  have h0' : (s.size : Int) = 0 := by omega
  rcases doc_cases hh hl hR h1 h2 with ⟨p, hF, hv⟩ | ⟨hF, rfl⟩
  · exact absurd hF.le (by have := hF.2.1; omega)
  · have C2 := Lib.hid (fun w => form_isnt s w (by omega) hF)
    clear hF h1 h2 hR
    go_enter Tryz.func51, Tryz.ntmps51
    go_wp2_with (first
      | (go_at_call 70; refine (C1.out _).mono ?_; rintro e w' ⟨rfl, rfl⟩)
      | (go_at_call 109; refine (C2.out _).mono ?_; rintro e w' ⟨rfl, rfl⟩))
    go_ret2
    exact ⟨rfl, Below.refl _ _⟩

set_option maxRecDepth 100000 in
set_option maxHeartbeats 4000000 in
theorem refRead_b (s : ByteArray) (how : Int) (w : World) (R : Except Int Int) (hh : HowOk how) (hl : s.size ≤ 60) (hR : readR s.data.toList how = R) (h0 : 0 < s.size) (h3 : ((s[0]'h0).toNat : Int) ≠ 45) (h1 : Lib.trimPrefix s.data.toList [45] = s.data.toList) (h2 : Lib.hasPrefix s.data.toList [45] = false) :
    Calls Tryz.prog 51 #[.string s, .int .i64 how] w fun e w' => e = .returned (.tuple #[.int .i64 (valE 0 R), .int .i64 (errE R)]) ∧ Below w.heap.size w w' := by
  have C1 : Hid (∀ w, Calls Tryz.prog 70 #[.int .i64 how] w fun e w' => e = .returned (.bool true) ∧ w = w') := fun w => by have := refHow how w; rwa [decide_eq_true hh] at this
  have hl' : ¬ (60 : Int) < (s.size : Int) := by omega
  have hxs := hl
  obtain ⟨y, hy⟩ : ∃ y : Int, ((s[0]'h0).toNat : Int) = y := ⟨_, rfl⟩
  rw [hy] at h3
  have h3' : (y == 45) = false := by simpa using h3
  have h0' : (0 : Int) < (s.size : Int) := by omega
  rcases doc_cases hh hl hR h1 h2 with ⟨p, hF, hv⟩ | ⟨hF, rfl⟩
  · have C2 := Lib.hid (fun w => form_is s w p (by omega) hF)
    have HF := Lib.hid hF
    have HV := Lib.hid hv
    have hp := hF.le
    clear hF hv h1 h2 hR
    go_enter Tryz.func51, Tryz.ntmps51
    go_wp2_with (first
      | (go_at_call 70; refine (C1.out _).mono ?_; rintro e w' ⟨rfl, rfl⟩)
      | (go_at_call 109; refine (C2.out _).mono ?_; rintro e w' ⟨rfl, rfl⟩))
    have hF0 := HF.out.dig
    go_loopw [10, 11, 12] (fun nv dv iv wr => ∃ (i N D : Nat), iv = .int .i64 i ∧ i ≤ s.size ∧ Hid (N = rn (byt s.data.toList) p i) ∧ Hid (D = rd p i) ∧ Hid (BigN wr nv N) ∧ Hid (BigN wr dv D) ∧ Below w.heap.size w wr) (fun _ _ iv _ => s.size - (intOf iv).toNat)
    case atStart => exact ⟨0, 0, 1, rfl, by omega, rfl, rfl, BigN.nil _, BigN.one (by simp [go_sem]), (Below.refl _ _).alloc (Nat.le_refl _) _⟩
    case round =>
      obtain ⟨i, N, D, rfl, hi, hN, hD, kN, kD, hb⟩ := hrel
      have KN := Lib.hid kN.out
      have KD := Lib.hid kD.out
      have HB := Lib.hid hb
      have HN := Lib.hid hN.out
      have HD := Lib.hid hD.out
      obtain ⟨X1, n1, cap1, rfl⟩ := kN.out.form
      obtain ⟨X2, n2, cap2, rfl⟩ := kD.out.form
      clear kN kD hb hN hD hF0
      by_cases hlt : i < s.size
      · have hlt' : (i : Int) < (s.size : Int) := by omega
        by_cases hip : i = p
        · subst hip
          go_wp2_with fail
          go_roundw
          case rel =>
            refine ⟨i + 1, N, D, by go_num, by omega, ?_, ?_, KN, KD, HB.out⟩
            · show _ = _; rw [HN.out, rn, if_pos rfl]
            · show _ = _; rw [HD.out, rd, if_neg (by omega)]
          case measure => simp [intOf]; omega
        · have hip' : ((i : Int) == (p : Int)) = false := by simp; omega
          obtain ⟨b, hb0⟩ : ∃ b, byt s.data.toList i = b := ⟨_, rfl⟩
          have hdig := HF.out.dig i hlt hip
          rw [hb0] at hdig
          obtain ⟨g1, g2⟩ := hdig
          have hb : (s[i]'hlt).toNat = b := by rw [← hb0, byt_get (by simpa using hlt)]; rfl
          have HB0 := Lib.hid hb0
          obtain ⟨d, hd⟩ : ∃ d, b - 48 = d := ⟨_, rfl⟩
          have hd' : (b : Int) - 48 = (d : Int) := by omega
          have hd9 : d ≤ 9 := by omega
          have HDD := Lib.hid hd
          have LN := Lib.hid (lim60 (n := N) (by rw [HN.out]; exact rn_lim HF.out.dig hi hxs)).2.2.1
          have LD := Lib.hid (lim60 (n := D) (by rw [HD.out]; exact rd_lim (by omega))).2.2.1
          have LN1 := Lib.hid (lim60 (n := N) (by rw [HN.out]; exact rn_lim HF.out.dig hi hxs)).2.2.2
          have O10 : Hid (∀ w, Calls Tryz.prog 72 #[.int .i64 10] w (BigOut w 10)) := fun w => of_nat 10 w (by omega)
          have OD : Hid (∀ w, Calls Tryz.prog 72 #[.int .i64 d] w (BigOut w d)) := fun w => of_nat d w (by omega)
          clear hb0 hd
          have L10 : Hid (Lim 10) := lim_of (k := 4) (by decide) (by decide)
          have LD9 : Hid (Lim d) := lim_of (k := 4) (by omega) (by decide)
          have hwd : IntKind.i64.wrap (IntKind.u8.wrap (d : Int)) = (d : Int) := by rw [IntWalk.u8_in _ (by omega), IntWalk.i64_in _ (by omega)]
          have HWD := Lib.hid hwd
          clear g1 g2 hwd
          go_wp2_with fail
          replace KN := Lib.hid KN.out.drawn
          replace KD := Lib.hid KD.out.drawn
          replace HB := Lib.hid (below_drewN HB.out 1)
          go_region_with (first
            | (go_at_call 72; ((with_reducible refine (O10.out _).mono ?_); rintro e w1 ⟨v1, rfl, k1, hb1⟩; have G1 := Lib.hid k1; obtain ⟨Y1, m1, c1, rfl⟩ := k1.form; clear k1; replace KN := Lib.hid (KN.out.up hb1); replace KD := Lib.hid (KD.out.up hb1); replace HB := Lib.hid (HB.out.trans (hb1.mono HB.out.size)); try replace G3 := Lib.hid (G3.out.up hb1)))
            | (go_at_call 72; rw [HWD.out]; ((with_reducible refine (OD.out _).mono ?_); rintro e w3 ⟨v3, rfl, k3, hb3⟩; have G3 := Lib.hid k3; obtain ⟨Y3, m3, c3, rfl⟩ := k3.form; clear k3; (try replace KN := Lib.hid (KN.out.up hb3)); replace KD := Lib.hid (KD.out.up hb3); replace HB := Lib.hid (HB.out.trans (hb3.mono HB.out.size)); (try replace G1 := Lib.hid (G1.out.up hb3)); try replace G2 := Lib.hid (G2.out.up hb3)))
            | (go_at_call 102; refine (times_N _ _ _ _ _ KN.out G1.out LN.out L10.out).mono ?_; rintro e w2 ⟨v2, rfl, k2, hb2⟩; have G2 := Lib.hid k2; obtain ⟨Y2, m2, c2, rfl⟩ := k2.form; clear k2; replace KD := Lib.hid (KD.out.up hb2); replace HB := Lib.hid (HB.out.trans (hb2.mono HB.out.size)); try replace G3 := Lib.hid (G3.out.up hb2))
            | (go_at_call 110; refine (plus_N _ _ _ _ _ G2.out G3.out LN1.out LD9.out).mono ?_; rintro e w4 ⟨v4, rfl, k4, hb4⟩; have G4 := Lib.hid k4; obtain ⟨Y4, m4, c4, rfl⟩ := k4.form; clear k4; replace KD := Lib.hid (KD.out.up hb4); replace HB := Lib.hid (HB.out.trans (hb4.mono HB.out.size))))
          all_goals
            have e4 : N * 10 + d = rn (byt s.data.toList) p (i + 1) := by rw [HN.out, rn, if_neg hip, HB0.out, HDD.out]
            have E4 := Lib.hid e4
            clear e4
            clear KN G1 G2 G3
            by_cases hpi : p < i
            · have hpi' : (p : Int) < (i : Int) := by omega
              have e5 : D * 10 = rd p (i + 1) := by rw [HD.out, rd, if_pos hpi]
              have E5 := Lib.hid e5
              clear e5
              go_wp2_with (first
                | (go_at_call 72; ((with_reducible refine (O10.out _).mono ?_); rintro e w5 ⟨v5, rfl, k5, hb5⟩; have G5 := Lib.hid k5; obtain ⟨Y5, m5, c5, rfl⟩ := k5.form; clear k5; replace KD := Lib.hid (KD.out.up hb5); replace HB := Lib.hid (HB.out.trans (hb5.mono HB.out.size)); replace G4 := Lib.hid (G4.out.up hb5)))
                | (go_at_call 102; refine (times_N _ _ _ _ _ KD.out G5.out LD.out L10.out).mono ?_; rintro e w6 ⟨v6, rfl, k6, hb6⟩; have G6 := Lib.hid k6; obtain ⟨Y6, m6, c6, rfl⟩ := k6.form; clear k6; replace HB := Lib.hid (HB.out.trans (hb6.mono HB.out.size)); replace G4 := Lib.hid (G4.out.up hb6)))
              go_roundw
              case rel => exact ⟨i + 1, N * 10 + d, D * 10, by go_num, by omega, E4.out, E5.out, G4, G6, HB.out⟩
              case measure => simp [intOf]; omega
            · have hpi' : ¬ (p : Int) < (i : Int) := by omega
              have e5 : D = rd p (i + 1) := by rw [HD.out, rd, if_neg hpi]
              have E5 := Lib.hid e5
              clear e5
              try go_wp2_with fail
              go_roundw
              case rel => exact ⟨i + 1, N * 10 + d, D, by go_num, by omega, E4.out, E5.out, G4, KD, HB.out⟩
              case measure => simp [intOf]; omega
      · obtain rfl : i = s.size := by omega
        have hlt' : ¬ (s.size : Int) < (s.size : Int) := by omega
        have l1 := lim60 (n := N) (by rw [HN.out]; exact rn_lim HF.out.dig (Nat.le_refl _) hxs)
        have l2 := lim60 (n := D) (by rw [HD.out]; exact rd_lim (by omega))
        have hv := HV.out (N * 65536) D (by rw [HN.out]) HD.out
        have L1 := Lib.hid l1
        have L2 := Lib.hid l2
        have HDp : Hid (0 < D) := by show _ < _; rw [HD.out]; exact rd_pos _ _
        have CR : Hid (∀ va vb w, BigN w va (N * 65536) → BigN w vb D → Calls Tryz.prog 71 #[va, vb, .bool false, .int .i64 how] w _) := fun va vb w h1 h2 => rounded_N va vb (N * 65536) D false how w h1 h2 L1.out.1 L2.out.2.1 HDp.out hh
        obtain ⟨q, hq⟩ : ∃ q, sgn ((if N * 65536 / D < 1152921504606846976 then ((N * 65536 / D : Nat) : Int) else 0) + b2i (bump (119 + how.toNat) ((N * 65536 % D : Nat) : Int) (D : Int) false)) false = q := ⟨_, rfl⟩
        obtain ⟨sm, hsm⟩ : ∃ sm, decide (N * 65536 / D < 1152921504606846976) = sm := ⟨_, rfl⟩
        rw [hq, hsm] at CR hv
        subst hv
        clear hq hsm l1 l2
        go_wp2_with (first
          | (go_at_call 111; refine (up_N _ N 16 _ KN.out L1.out.2.2.1 (.inr (.inl rfl))).mono ?_; rintro e w1 ⟨v1, rfl, k1, hb1⟩; have G1 : Hid (BigN w1 v1 (N * 65536)) := k1; obtain ⟨Y1, m1, c1, rfl⟩ := k1.form; clear k1)
          | (go_at_call 71; refine (CR.out _ _ _ G1.out (KD.out.up hb1)).mono ?_; rintro e w2 ⟨rfl, hb2⟩)
          | (go_at_call 76; refine (refFit q sm _).mono ?_; rintro e w' ⟨rfl, rfl⟩))
        go_ret2
        exact ⟨rfl, (HB.out.trans (hb1.mono HB.out.size)).trans (hb2.mono (Nat.le_trans HB.out.size hb1.size))⟩
  · have C2 := Lib.hid (fun w => form_isnt s w (by omega) hF)
    clear hF h1 h2 hR
    go_enter Tryz.func51, Tryz.ntmps51
    go_wp2_with (first
      | (go_at_call 70; refine (C1.out _).mono ?_; rintro e w' ⟨rfl, rfl⟩)
      | (go_at_call 109; refine (C2.out _).mono ?_; rintro e w' ⟨rfl, rfl⟩))
    go_ret2
    exact ⟨rfl, Below.refl _ _⟩

set_option maxRecDepth 100000 in
set_option maxHeartbeats 4000000 in
theorem refRead_c (s : ByteArray) (how : Int) (w : World) (R : Except Int Int) (hh : HowOk how) (hl : s.size ≤ 60) (hR : readR s.data.toList how = R) (h0 : 0 < s.size) (h3 : ((s[0]'h0).toNat : Int) = 45) (h1 : Lib.trimPrefix s.data.toList [45] = (s.extract 1 s.size).data.toList) (h2 : Lib.hasPrefix s.data.toList [45] = true) :
    Calls Tryz.prog 51 #[.string s, .int .i64 how] w fun e w' => e = .returned (.tuple #[.int .i64 (valE 0 R), .int .i64 (errE R)]) ∧ Below w.heap.size w w' := by
  have C1 : Hid (∀ w, Calls Tryz.prog 70 #[.int .i64 how] w fun e w' => e = .returned (.bool true) ∧ w = w') := fun w => by have := refHow how w; rwa [decide_eq_true hh] at this
  have hl' : ¬ (60 : Int) < (s.size : Int) := by omega
  obtain ⟨x, hx⟩ : ∃ x, s.extract 1 s.size = x := ⟨_, rfl⟩
  rw [hx] at h1
  have hxs : x.size ≤ 60 := by rw [← hx]; simp; omega
  rcases doc_cases hh hl hR h1 h2 with ⟨p, hF, hv⟩ | ⟨hF, rfl⟩
  · have C2 := Lib.hid (fun w => form_is x w p (by omega) hF)
    have HF := Lib.hid hF
    have HV := Lib.hid hv
    have hp := hF.le
    clear hF hv h1 h2 hR hl
    go_enter Tryz.func51, Tryz.ntmps51
    go_wp2_with (first
      | (go_at_call 70; refine (C1.out _).mono ?_; rintro e w' ⟨rfl, rfl⟩)
      | (go_at_call 109; refine (C2.out _).mono ?_; rintro e w' ⟨rfl, rfl⟩))
    have hF0 := HF.out.dig
    go_loopw [10, 11, 12] (fun nv dv iv wr => ∃ (i N D : Nat), iv = .int .i64 i ∧ i ≤ x.size ∧ Hid (N = rn (byt x.data.toList) p i) ∧ Hid (D = rd p i) ∧ Hid (BigN wr nv N) ∧ Hid (BigN wr dv D) ∧ Below w.heap.size w wr) (fun _ _ iv _ => x.size - (intOf iv).toNat)
    case atStart => exact ⟨0, 0, 1, rfl, by omega, rfl, rfl, BigN.nil _, BigN.one (by simp [go_sem]), (Below.refl _ _).alloc (Nat.le_refl _) _⟩
    case round =>
      obtain ⟨i, N, D, rfl, hi, hN, hD, kN, kD, hb⟩ := hrel
      have KN := Lib.hid kN.out
      have KD := Lib.hid kD.out
      have HB := Lib.hid hb
      have HN := Lib.hid hN.out
      have HD := Lib.hid hD.out
      obtain ⟨X1, n1, cap1, rfl⟩ := kN.out.form
      obtain ⟨X2, n2, cap2, rfl⟩ := kD.out.form
      clear kN kD hb hN hD hF0
      by_cases hlt : i < x.size
      · have hlt' : (i : Int) < (x.size : Int) := by omega
        by_cases hip : i = p
        · subst hip
          go_wp2_with fail
          go_roundw
          case rel =>
            refine ⟨i + 1, N, D, by go_num, by omega, ?_, ?_, KN, KD, HB.out⟩
            · show _ = _; rw [HN.out, rn, if_pos rfl]
            · show _ = _; rw [HD.out, rd, if_neg (by omega)]
          case measure => simp [intOf]; omega
        · have hip' : ((i : Int) == (p : Int)) = false := by simp; omega
          obtain ⟨b, hb0⟩ : ∃ b, byt x.data.toList i = b := ⟨_, rfl⟩
          have hdig := HF.out.dig i hlt hip
          rw [hb0] at hdig
          obtain ⟨g1, g2⟩ := hdig
          have hb : (x[i]'hlt).toNat = b := by rw [← hb0, byt_get (by simpa using hlt)]; rfl
          have HB0 := Lib.hid hb0
          obtain ⟨d, hd⟩ : ∃ d, b - 48 = d := ⟨_, rfl⟩
          have hd' : (b : Int) - 48 = (d : Int) := by omega
          have hd9 : d ≤ 9 := by omega
          have HDD := Lib.hid hd
          have LN := Lib.hid (lim60 (n := N) (by rw [HN.out]; exact rn_lim HF.out.dig hi hxs)).2.2.1
          have LD := Lib.hid (lim60 (n := D) (by rw [HD.out]; exact rd_lim (by omega))).2.2.1
          have LN1 := Lib.hid (lim60 (n := N) (by rw [HN.out]; exact rn_lim HF.out.dig hi hxs)).2.2.2
          have O10 : Hid (∀ w, Calls Tryz.prog 72 #[.int .i64 10] w (BigOut w 10)) := fun w => of_nat 10 w (by omega)
          have OD : Hid (∀ w, Calls Tryz.prog 72 #[.int .i64 d] w (BigOut w d)) := fun w => of_nat d w (by omega)
          clear hb0 hd
          have L10 : Hid (Lim 10) := lim_of (k := 4) (by decide) (by decide)
          have LD9 : Hid (Lim d) := lim_of (k := 4) (by omega) (by decide)
          have hwd : IntKind.i64.wrap (IntKind.u8.wrap (d : Int)) = (d : Int) := by rw [IntWalk.u8_in _ (by omega), IntWalk.i64_in _ (by omega)]
          have HWD := Lib.hid hwd
          clear g1 g2 hwd
          go_wp2_with fail
          replace KN := Lib.hid KN.out.drawn
          replace KD := Lib.hid KD.out.drawn
          replace HB := Lib.hid (below_drewN HB.out 1)
          go_region_with (first
            | (go_at_call 72; ((with_reducible refine (O10.out _).mono ?_); rintro e w1 ⟨v1, rfl, k1, hb1⟩; have G1 := Lib.hid k1; obtain ⟨Y1, m1, c1, rfl⟩ := k1.form; clear k1; replace KN := Lib.hid (KN.out.up hb1); replace KD := Lib.hid (KD.out.up hb1); replace HB := Lib.hid (HB.out.trans (hb1.mono HB.out.size)); try replace G3 := Lib.hid (G3.out.up hb1)))
            | (go_at_call 72; rw [HWD.out]; ((with_reducible refine (OD.out _).mono ?_); rintro e w3 ⟨v3, rfl, k3, hb3⟩; have G3 := Lib.hid k3; obtain ⟨Y3, m3, c3, rfl⟩ := k3.form; clear k3; (try replace KN := Lib.hid (KN.out.up hb3)); replace KD := Lib.hid (KD.out.up hb3); replace HB := Lib.hid (HB.out.trans (hb3.mono HB.out.size)); (try replace G1 := Lib.hid (G1.out.up hb3)); try replace G2 := Lib.hid (G2.out.up hb3)))
            | (go_at_call 102; refine (times_N _ _ _ _ _ KN.out G1.out LN.out L10.out).mono ?_; rintro e w2 ⟨v2, rfl, k2, hb2⟩; have G2 := Lib.hid k2; obtain ⟨Y2, m2, c2, rfl⟩ := k2.form; clear k2; replace KD := Lib.hid (KD.out.up hb2); replace HB := Lib.hid (HB.out.trans (hb2.mono HB.out.size)); try replace G3 := Lib.hid (G3.out.up hb2))
            | (go_at_call 110; refine (plus_N _ _ _ _ _ G2.out G3.out LN1.out LD9.out).mono ?_; rintro e w4 ⟨v4, rfl, k4, hb4⟩; have G4 := Lib.hid k4; obtain ⟨Y4, m4, c4, rfl⟩ := k4.form; clear k4; replace KD := Lib.hid (KD.out.up hb4); replace HB := Lib.hid (HB.out.trans (hb4.mono HB.out.size))))
          all_goals
            have e4 : N * 10 + d = rn (byt x.data.toList) p (i + 1) := by rw [HN.out, rn, if_neg hip, HB0.out, HDD.out]
            have E4 := Lib.hid e4
            clear e4
            clear KN G1 G2 G3
            by_cases hpi : p < i
            · have hpi' : (p : Int) < (i : Int) := by omega
              have e5 : D * 10 = rd p (i + 1) := by rw [HD.out, rd, if_pos hpi]
              have E5 := Lib.hid e5
              clear e5
              go_wp2_with (first
                | (go_at_call 72; ((with_reducible refine (O10.out _).mono ?_); rintro e w5 ⟨v5, rfl, k5, hb5⟩; have G5 := Lib.hid k5; obtain ⟨Y5, m5, c5, rfl⟩ := k5.form; clear k5; replace KD := Lib.hid (KD.out.up hb5); replace HB := Lib.hid (HB.out.trans (hb5.mono HB.out.size)); replace G4 := Lib.hid (G4.out.up hb5)))
                | (go_at_call 102; refine (times_N _ _ _ _ _ KD.out G5.out LD.out L10.out).mono ?_; rintro e w6 ⟨v6, rfl, k6, hb6⟩; have G6 := Lib.hid k6; obtain ⟨Y6, m6, c6, rfl⟩ := k6.form; clear k6; replace HB := Lib.hid (HB.out.trans (hb6.mono HB.out.size)); replace G4 := Lib.hid (G4.out.up hb6)))
              go_roundw
              case rel => exact ⟨i + 1, N * 10 + d, D * 10, by go_num, by omega, E4.out, E5.out, G4, G6, HB.out⟩
              case measure => simp [intOf]; omega
            · have hpi' : ¬ (p : Int) < (i : Int) := by omega
              have e5 : D = rd p (i + 1) := by rw [HD.out, rd, if_neg hpi]
              have E5 := Lib.hid e5
              clear e5
              try go_wp2_with fail
              go_roundw
              case rel => exact ⟨i + 1, N * 10 + d, D, by go_num, by omega, E4.out, E5.out, G4, KD, HB.out⟩
              case measure => simp [intOf]; omega
      · obtain rfl : i = x.size := by omega
        have hlt' : ¬ (x.size : Int) < (x.size : Int) := by omega
        have l1 := lim60 (n := N) (by rw [HN.out]; exact rn_lim HF.out.dig (Nat.le_refl _) hxs)
        have l2 := lim60 (n := D) (by rw [HD.out]; exact rd_lim (by omega))
        have hv := HV.out (N * 65536) D (by rw [HN.out]) HD.out
        have L1 := Lib.hid l1
        have L2 := Lib.hid l2
        have HDp : Hid (0 < D) := by show _ < _; rw [HD.out]; exact rd_pos _ _
        have CR : Hid (∀ va vb w, BigN w va (N * 65536) → BigN w vb D → Calls Tryz.prog 71 #[va, vb, .bool true, .int .i64 how] w _) := fun va vb w h1 h2 => rounded_N va vb (N * 65536) D true how w h1 h2 L1.out.1 L2.out.2.1 HDp.out hh
        obtain ⟨q, hq⟩ : ∃ q, sgn ((if N * 65536 / D < 1152921504606846976 then ((N * 65536 / D : Nat) : Int) else 0) + b2i (bump (119 + how.toNat) ((N * 65536 % D : Nat) : Int) (D : Int) true)) true = q := ⟨_, rfl⟩
        obtain ⟨sm, hsm⟩ : ∃ sm, decide (N * 65536 / D < 1152921504606846976) = sm := ⟨_, rfl⟩
        rw [hq, hsm] at CR hv
        subst hv
        clear hq hsm l1 l2
        go_wp2_with (first
          | (go_at_call 111; refine (up_N _ N 16 _ KN.out L1.out.2.2.1 (.inr (.inl rfl))).mono ?_; rintro e w1 ⟨v1, rfl, k1, hb1⟩; have G1 : Hid (BigN w1 v1 (N * 65536)) := k1; obtain ⟨Y1, m1, c1, rfl⟩ := k1.form; clear k1)
          | (go_at_call 71; refine (CR.out _ _ _ G1.out (KD.out.up hb1)).mono ?_; rintro e w2 ⟨rfl, hb2⟩)
          | (go_at_call 76; refine (refFit q sm _).mono ?_; rintro e w' ⟨rfl, rfl⟩))
        go_ret2
        exact ⟨rfl, (HB.out.trans (hb1.mono HB.out.size)).trans (hb2.mono (Nat.le_trans HB.out.size hb1.size))⟩
  · have C2 := Lib.hid (fun w => form_isnt x w (by omega) hF)
    clear hF h1 h2 hR hl
    go_enter Tryz.func51, Tryz.ntmps51
    go_wp2_with (first
      | (go_at_call 70; refine (C1.out _).mono ?_; rintro e w' ⟨rfl, rfl⟩)
      | (go_at_call 109; refine (C2.out _).mono ?_; rintro e w' ⟨rfl, rfl⟩))
    go_ret2
    exact ⟨rfl, Below.refl _ _⟩

set_option maxHeartbeats 1000000 in
theorem refRead (s : ByteArray) (how : Int) (w : World) (hs : s.size ≤ 200) :
    Calls Tryz.prog 51 #[.string s, .int .i64 how] w fun e w' => e = .returned (.tuple #[.int .i64 (valE 0 (readR s.data.toList how)), .int .i64 (errE (readR s.data.toList how))]) ∧ Below w.heap.size w w' := by
  have C1 := Lib.hid (fun w => refHow how w)
  obtain ⟨R, hR⟩ : ∃ R, readR s.data.toList how = R := ⟨_, rfl⟩
  by_cases hh : HowOk how
  · rw [decide_eq_true hh] at C1
    by_cases hl : s.size ≤ 60
    · rw [hR]
      rcases sign_cases s with ⟨h0, h1, h2⟩ | ⟨h0, h3, h1, h2⟩ | ⟨h0, h3, h1, h2⟩
      · exact refRead_a s how w R hh hl hR h0 h1 h2
      · exact refRead_b s how w R hh hl hR h0 h3 h1 h2
      · exact refRead_c s how w R hh hl hR h0 h3 h1 h2
    · have hl' : (60 : Int) < (s.size : Int) := by omega
      have e : R = .error 3 := by
        rw [← hR]; unfold readR; rw [if_pos hh, if_neg (by rw [← Lib.size_eq]; exact hl)]
      subst e
      rw [hR]
      clear hR hl hs hh
      go_enter Tryz.func51, Tryz.ntmps51
      go_wp2_with (go_at_call 70; refine (C1.out _).mono ?_; rintro e w' ⟨rfl, rfl⟩)
      go_ret2
      exact ⟨rfl, Below.refl _ _⟩
  · rw [decide_eq_false hh] at C1
    have e : R = .error 2 := by rw [← hR]; unfold readR; rw [if_neg hh]
    subst e
    rw [hR]
    clear hR hs hh
    go_enter Tryz.func51, Tryz.ntmps51
    go_wp2_with (go_at_call 70; refine (C1.out _).mono ?_; rintro e w' ⟨rfl, rfl⟩)
    go_ret2
    exact ⟨rfl, Below.refl _ _⟩
end Go.Proofs.YthkhhjfldkebcaaGreatDoor
