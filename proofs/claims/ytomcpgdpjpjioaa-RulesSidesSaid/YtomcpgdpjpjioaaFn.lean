/- Contract of the document's rule. -/
import Derived.Test.YtomcpgdpjpjioaaFm
import Derived.Test.YtomcpgdpjpjioaaPr
namespace Go.Proofs.Ytomcpgdpjpjioaa
open Go.RowKit Go.Proofs Go.Shelf
attribute [local go_sem] Oper.semAt_some

theorem isB_eqK (t n : Int) (s : St) : isB t n s = eqK s.t s.n t n := by unfold isB eqK; rfl
set_option maxRecDepth 100000 in
set_option maxHeartbeats 16000000 in
theorem rule43 (c : Cd) (n : Int) (x : Th) (l m : List St) (v u : Value) (w : World) (hv : RowS w v l) (hu : RowS w u m) (hd : dis m) (hl : l.length ≤ 900) :
    Calls Try.prog 43 #[Cdv c, .int .i64 n, v, Thv x u] w (Back (.int .i64 (juN c n x l m)) w) := by
  have H49 : Hid (∀ W t q, Below w.heap.size w W → Calls Try.prog 49 #[u, .int .i64 t, .int .i64 q] W (Back (.int .i64 (fidx (isB t q) m)) W)) := fun W t q h => find49 t q m u W (hu.up h)
  have RV : Hid (∀ r q, remB c n x.team m l = r → movB c n x.team m l = q → (juN c n x l m : Int) = ((ruleN x r q (decide (n < c.s)) : Nat) : Int)) := fun r q h1 h2 => by unfold juN; rw [h1, h2]
  have HD := Lib.hid hd
  have HV := Lib.hid hv
  obtain ⟨A, cap, rfl, hlc, ⟨hcap, hcmx⟩, hcells⟩ := hv
  obtain ⟨A2, cap2, rfl, hlc2, ⟨hcap2, hcmx2⟩, hcells2⟩ := hu
  have HR := Lib.hid hcells
  have HM := Lib.hid hcells2
  clear hcells hcells2 hcmx hcmx2 hd
  have K0 : Hid (∀ W, W = ((w.alloc (.cells #[.int .i64 c.f, .int .i64 c.t, .int .i64 c.s, .int .i64 c.e, .bool c.p] 23)).alloc (Tho x (.slice A2 m.length cap2))) → Below w.heap.size w W ∧ Cd5 W w.heap.size c ∧ Th6 W (w.heap.size + 1) x (.slice A2 m.length cap2)) := by
    rintro W rfl
    have b0 : Below w.heap.size w (w.alloc (.cells #[.int .i64 c.f, .int .i64 c.t, .int .i64 c.s, .int .i64 c.e, .bool c.p] 23)) := (Below.refl _ _).alloc (Nat.le_refl _) _
    have k1 := Th6.new (w.alloc (.cells #[.int .i64 c.f, .int .i64 c.t, .int .i64 c.s, .int .i64 c.e, .bool c.p] 23)) x (.slice A2 m.length cap2)
    simp only [World.size_alloc] at k1
    exact ⟨b0.alloc (by simp) _, (Cd5.new w c).up ((Below.refl _ _).alloc (Nat.le_refl _) _), k1⟩
  have RN := Lib.hid (fun r q => ruleN_val x r q (decide (n < c.s)))
  have H38 := Lib.hid (fun s W => refkept c n x.team s W)
  have H39 := Lib.hid (fun s W => reffixed c n x.team s W)
  have H62 := Lib.hid (fun s W => refcentre s W)
  obtain ⟨x1, x2, x3, x4, x5⟩ := x
  obtain ⟨f, t, s, e, p⟩ := c
  have H38 : Hid (∀ s' W, Calls Try.prog 38 #[.agg #[.int .i64 f, .int .i64 t, .int .i64 s, .int .i64 e, .bool p], .int .i64 n, .int .i64 x1, Stv s'] W (Back (.bool (kpB ⟨f, t, s, e, p⟩ n x1 s')) W)) := H38.out
  have H39 : Hid (∀ s' W, Calls Try.prog 39 #[.agg #[.int .i64 f, .int .i64 t, .int .i64 s, .int .i64 e, .bool p], .int .i64 n, .int .i64 x1, Stv s'] W (Back (.bool (fxB ⟨f, t, s, e, p⟩ n x1 s')) W)) := H39.out
  have RN : Hid (∀ r q, ruleN ⟨x1, x2, x3, x4, x5⟩ r q (decide (n < s)) = if x3 = true then 1 else if (x5 == 1) = true then 2 else if x4 = true then 3 else if (x5 == 3) = true then 4 else if (x5 == 2) = true then 5 else if (x5 == 4) = true then 6
    else if (r && !(decide (n < s))) = true then 7 else if r = true then 8 else if q = true then 9 else 0) := RN.out
  have FIN : Hid (∀ k : Nat, (∀ r q, ruleN ⟨x1, x2, x3, x4, x5⟩ r q (decide (n < s)) = k) → (.int .i64 (juN ⟨f, t, s, e, p⟩ n ⟨x1, x2, x3, x4, x5⟩ l m) : Value) = .int .i64 k) := fun k h => by
    have := RV.out _ _ rfl rfl
    rw [this, h]
  go_enter Try.func43, Try.ntmps43
  go_upto_region 1 with fail
  generalize hwx : World.alloc (World.alloc w _) _ = wx
  obtain ⟨k1, k2, k3⟩ := K0.out wx hwx.symm
  have HB := Lib.hid k1
  have C5 := Lib.hid k2
  have T6 := Lib.hid k3
  clear hwx K0 k1 k2 k3
  obtain ⟨t0, t1, t2, t3, t4, t5⟩ := T6.out
  simp only at t0 t1 t2 t3 t4 t5
  cases x3
  case true =>
    go_wp2_with fail
    go_ret
    exact ⟨by rw [FIN.out 1 (fun r q => by rw [RN.out]; simp)]; rfl, HB.out⟩
  case false =>
    by_cases h1 : x5 = 1
    · subst h1
      go_wp2_with fail
      go_ret
      exact ⟨by rw [FIN.out 2 (fun r q => by rw [RN.out]; simp)]; rfl, HB.out⟩
    · have b1 : (x5 == 1) = false := by simpa using h1
      cases x4
      case true =>
        go_wp2_with fail
        go_ret
        exact ⟨by rw [FIN.out 3 (fun r q => by rw [RN.out]; simp [b1])]; rfl, HB.out⟩
      case false =>
        by_cases h3 : x5 = 3
        · subst h3
          go_wp2_with fail
          go_ret
          exact ⟨by rw [FIN.out 4 (fun r q => by rw [RN.out]; simp)]; rfl, HB.out⟩
        · have b3 : (x5 == 3) = false := by simpa using h3
          by_cases h2 : x5 = 2
          · subst h2
            go_wp2_with fail
            go_ret
            exact ⟨by rw [FIN.out 5 (fun r q => by rw [RN.out]; simp)]; rfl, HB.out⟩
          · have b2 : (x5 == 2) = false := by simpa using h2
            by_cases h4 : x5 = 4
            · subst h4
              go_wp2_with fail
              go_ret
              exact ⟨by rw [FIN.out 6 (fun r q => by rw [RN.out]; simp)]; rfl, HB.out⟩
            · have b4 : (x5 == 4) = false := by simpa using h4
              have RR : Hid (∀ r q, ruleN ⟨x1, x2, false, false, x5⟩ r q (decide (n < s)) = if (r && !(decide (n < s))) = true then 7 else if r = true then 8 else if q = true then 9 else 0) := fun r q => by rw [RN.out]; simp [b1, b2, b3, b4]
              clear h1 h2 h3 h4 RN FIN
              go_wp2_with fail
              clear t0 t1 t2 t3 t4 t5
              go_loopw [9, 10, 11] (fun rv mv iv wr => ∃ k : Nat, k ≤ l.length ∧ rv = .bool (remB ⟨f, t, s, e, p⟩ n x1 m (l.take k)) ∧ mv = .bool (movB ⟨f, t, s, e, p⟩ n x1 m (l.take k)) ∧ iv = .int .i64 k ∧ Hid (Below wx.heap.size wx wr)) (fun _ _ iv _ => l.length - (intOf iv).toNat)
              case atStart => exact ⟨0, by omega, rfl, rfl, rfl, Below.refl _ _⟩
              case round =>
                obtain ⟨k, hk, rfl, rfl, rfl, hb⟩ := hrel
                have C5 := Lib.hid (C5.out.up hb.out)
                have T6 := Lib.hid (T6.out.up hb.out)
                have HBX := HB
                have HB : Hid (Below wx.heap.size wx wr) := hb
                have WB := Lib.hid (HBX.out.trans (hb.out.mono HBX.out.size))
                clear hb
                obtain ⟨r, hr⟩ : ∃ q, remB ⟨f, t, s, e, p⟩ n x1 m (l.take k) = q := ⟨_, rfl⟩
                obtain ⟨q, hq⟩ : ∃ q, movB ⟨f, t, s, e, p⟩ n x1 m (l.take k) = q := ⟨_, rfl⟩
                rw [hr, hq]
                by_cases hlt : k < l.length
                · have hlt' : (k : Int) < (l.length : Int) := by omega
                  obtain ⟨b, o, rfl, hc⟩ := HR.out (by intro h; subst h; simp at hlt)
                  have S4 := Lib.hid ((hc k hlt).up WB.out)
                  have hrs := remB_step ⟨f, t, s, e, p⟩ n x1 m hlt
                  have hms := movB_step ⟨f, t, s, e, p⟩ n x1 m hlt
                  obtain ⟨y, hy⟩ : ∃ y, l[k]'hlt = y := ⟨_, rfl⟩
                  rw [hy] at S4 hrs hms
                  rw [hr] at hrs
                  rw [hq] at hms
                  obtain ⟨kp, hkp⟩ : ∃ q, kpB ⟨f, t, s, e, p⟩ n x1 y = q := ⟨_, rfl⟩
                  obtain ⟨fx, hfx⟩ : ∃ q, fxB ⟨f, t, s, e, p⟩ n x1 y = q := ⟨_, rfl⟩
                  rw [hkp] at hrs
                  rw [hfx] at hms
                  have K38 : Hid (∀ W, Calls Try.prog 38 #[.agg #[.int .i64 f, .int .i64 t, .int .i64 s, .int .i64 e, .bool p], .int .i64 n, .int .i64 x1, Stv y] W (Back (.bool kp) W)) := fun W => by rw [← hkp]; exact H38.out y W
                  have K39 : Hid (∀ W, Calls Try.prog 39 #[.agg #[.int .i64 f, .int .i64 t, .int .i64 s, .int .i64 e, .bool p], .int .i64 n, .int .i64 x1, Stv y] W (Back (.bool fx) W)) := fun W => by rw [← hfx]; exact H39.out y W
                  have K49 : Hid (∀ X : BW wr, Calls Try.prog 49 #[.slice A2 m.length cap2, .int .i64 y.t, .int .i64 y.n] X.to (Back (.int .i64 (fidx (isB y.t y.n) m)) X.to)) := fun X => H49.out _ _ _ (WB.out.trans (X.same.mono WB.out.size))
                  have hlf := look_find HD.out y.t y.n
                  have HRK := Lib.hid hr
                  have HQK := Lib.hid hq
                  clear hr hq hkp hfx hy hc H38 H39
                  rcases fidx_cases (isB y.t y.n) m with ⟨ef, hno⟩ | ⟨j, hj, ef, hp, hbef⟩
                  · rw [find_no hno] at hlf
                    rw [hlf] at hrs hms
                    simp only [Option.isSome_none, Bool.not_false, Bool.true_and, Bool.false_and, Bool.or_false] at hrs hms
                    have HRS := Lib.hid hrs
                    have HMS := Lib.hid hms
                    rw [ef] at K49
                    clear ef hno hlf hrs hms
                    obtain ⟨y1, y2, y3, y4⟩ := y
                    simp only at K49
                    obtain ⟨k0, k1, k2, k3, k4⟩ := C5.out
                    obtain ⟨t0, t1, t2, t3, t4, t5⟩ := T6.out
                    obtain ⟨a0, a1, a2, a3⟩ := S4.out
                    simp only at k0 k1 k2 k3 k4 t0 t1 t2 t3 t4 t5 a0 a1 a2 a3
                    go_upto_region 17 with fail
                    have Ek0 := fun X : BW _ => upc k0 X.same
                    have Ek1 := fun X : BW _ => upc k1 X.same
                    have Ek2 := fun X : BW _ => upc k2 X.same
                    have Ek3 := fun X : BW _ => upc k3 X.same
                    have Ek4 := fun X : BW _ => upc k4 X.same
                    have Et0 := fun X : BW _ => upc t0 X.same
                    have Et1 := fun X : BW _ => upc t1 X.same
                    have Et2 := fun X : BW _ => upc t2 X.same
                    have Et3 := fun X : BW _ => upc t3 X.same
                    have Et4 := fun X : BW _ => upc t4 X.same
                    have Et5 := fun X : BW _ => upc t5 X.same
                    have Ea0 := fun X : BW _ => upc a0 X.same
                    have Ea1 := fun X : BW _ => upc a1 X.same
                    have Ea2 := fun X : BW _ => upc a2 X.same
                    have Ea3 := fun X : BW _ => upc a3 X.same
                    clear k0 k1 k2 k3 k4 t0 t1 t2 t3 t4 t5 a0 a1 a2 a3
                    refine wp_region_quietB (by kernel_rfl) (by kernel_rfl) ?_
                    repeat (go_big_quiet_step ((go_at_call 49; exact quietB (K49.out _))))
                    refine wpQuiet_nil ?_
                    rintro _ ⟨⟨wu, hbu⟩, rfl⟩
                    replace HB := Lib.hid (HB.out.trans (hbu.mono HB.out.size))
                    replace C5 := Lib.hid (C5.out.up hbu)
                    replace T6 := Lib.hid (T6.out.up hbu)
                    replace S4 := Lib.hid (S4.out.up hbu)
                    clear hbu Ek0 Ek1 Ek2 Ek3 Ek4 Et0 Et1 Et2 Et3 Et4 Et5 Ea0 Ea1 Ea2 Ea3
                    obtain ⟨k0, k1, k2, k3, k4⟩ := C5.out
                    obtain ⟨t0, t1, t2, t3, t4, t5⟩ := T6.out
                    obtain ⟨a0, a1, a2, a3⟩ := S4.out
                    simp only at k0 k1 k2 k3 k4 t0 t1 t2 t3 t4 t5 a0 a1 a2 a3
                    go_upto_region 18 with fail
                    have Ek0 := fun X : BW _ => upc k0 X.same
                    have Ek1 := fun X : BW _ => upc k1 X.same
                    have Ek2 := fun X : BW _ => upc k2 X.same
                    have Ek3 := fun X : BW _ => upc k3 X.same
                    have Ek4 := fun X : BW _ => upc k4 X.same
                    have Et0 := fun X : BW _ => upc t0 X.same
                    have Et1 := fun X : BW _ => upc t1 X.same
                    have Et2 := fun X : BW _ => upc t2 X.same
                    have Et3 := fun X : BW _ => upc t3 X.same
                    have Et4 := fun X : BW _ => upc t4 X.same
                    have Et5 := fun X : BW _ => upc t5 X.same
                    have Ea0 := fun X : BW _ => upc a0 X.same
                    have Ea1 := fun X : BW _ => upc a1 X.same
                    have Ea2 := fun X : BW _ => upc a2 X.same
                    have Ea3 := fun X : BW _ => upc a3 X.same
                    clear k0 k1 k2 k3 k4 t0 t1 t2 t3 t4 t5 a0 a1 a2 a3
                    refine wp_region_quietB (by kernel_rfl) (by kernel_rfl) ?_
                    repeat (go_big_quiet_step ((go_at_call 38; exact quietB (K38.out _))))
                    refine wpQuiet_nil ?_
                    rintro _ ⟨⟨wu, hbu⟩, rfl⟩
                    replace HB := Lib.hid (HB.out.trans (hbu.mono HB.out.size))
                    replace C5 := Lib.hid (C5.out.up hbu)
                    replace T6 := Lib.hid (T6.out.up hbu)
                    replace S4 := Lib.hid (S4.out.up hbu)
                    clear hbu Ek0 Ek1 Ek2 Ek3 Ek4 Et0 Et1 Et2 Et3 Et4 Et5 Ea0 Ea1 Ea2 Ea3
                    obtain ⟨k0, k1, k2, k3, k4⟩ := C5.out
                    obtain ⟨t0, t1, t2, t3, t4, t5⟩ := T6.out
                    obtain ⟨a0, a1, a2, a3⟩ := S4.out
                    simp only at k0 k1 k2 k3 k4 t0 t1 t2 t3 t4 t5 a0 a1 a2 a3
                    cases kp
                    all_goals
                      go_upto_region 20 with fail
                      have Ek0 := fun X : BW _ => upc k0 X.same
                      have Ek1 := fun X : BW _ => upc k1 X.same
                      have Ek2 := fun X : BW _ => upc k2 X.same
                      have Ek3 := fun X : BW _ => upc k3 X.same
                      have Ek4 := fun X : BW _ => upc k4 X.same
                      have Et0 := fun X : BW _ => upc t0 X.same
                      have Et1 := fun X : BW _ => upc t1 X.same
                      have Et2 := fun X : BW _ => upc t2 X.same
                      have Et3 := fun X : BW _ => upc t3 X.same
                      have Et4 := fun X : BW _ => upc t4 X.same
                      have Et5 := fun X : BW _ => upc t5 X.same
                      have Ea0 := fun X : BW _ => upc a0 X.same
                      have Ea1 := fun X : BW _ => upc a1 X.same
                      have Ea2 := fun X : BW _ => upc a2 X.same
                      have Ea3 := fun X : BW _ => upc a3 X.same
                      clear k0 k1 k2 k3 k4 t0 t1 t2 t3 t4 t5 a0 a1 a2 a3
                      refine wp_region_quietB (by kernel_rfl) (by kernel_rfl) ?_
                      repeat (go_big_quiet_step (fail))
                      refine wpQuiet_nil ?_
                      rintro _ ⟨⟨wu, hbu⟩, rfl⟩
                      replace HB := Lib.hid (HB.out.trans (hbu.mono HB.out.size))
                      replace C5 := Lib.hid (C5.out.up hbu)
                      replace T6 := Lib.hid (T6.out.up hbu)
                      replace S4 := Lib.hid (S4.out.up hbu)
                      clear hbu Ek0 Ek1 Ek2 Ek3 Ek4 Et0 Et1 Et2 Et3 Et4 Et5 Ea0 Ea1 Ea2 Ea3
                      go_wp2_with fail
                      go_roundw
                      case rel => exact ⟨k + 1, by omega, by rw [HRS.out]; simp, by rw [HMS.out], by go_num, HB⟩
                      case measure => simp [intOf]; omega
                  · rw [find_yes hj hp hbef] at hlf
                    rw [hlf] at hrs hms
                    simp only [Option.isSome_some, Option.getD_some, Bool.not_true, Bool.true_and, Bool.false_and, Bool.or_false] at hrs hms
                    have HRS := Lib.hid hrs
                    obtain ⟨b2, o2, rfl, hc2⟩ := HM.out (by intro h; subst h; simp at hj)
                    have M4 := Lib.hid ((hc2 j hj).up WB.out)
                    obtain ⟨z, hz⟩ : ∃ y, m[j]'hj = y := ⟨_, rfl⟩
                    rw [hz] at M4 hms
                    obtain ⟨ce, hce⟩ : ∃ q, cen z = q := ⟨_, rfl⟩
                    rw [hce] at hms
                    have K62 : Hid (∀ W, Calls Try.prog 62 #[Stv z] W (Back (.bool ce) W)) := fun W => by rw [← hce]; exact H62.out z W
                    have HMS := Lib.hid hms
                    have hj' : (j : Int) < (m.length : Int) := by omega
                    have hj0 : decide ((j : Int) < 0) = false := decide_eq_false (by omega)
                    have hj1 : decide ((0 : Int) ≤ (j : Int)) = true := decide_eq_true (by omega)
                    rw [ef] at K49
                    clear ef hp hbef hlf hrs hms hz hce hc2
                    obtain ⟨y1, y2, y3, y4⟩ := y
                    obtain ⟨z1, z2, z3, z4⟩ := z
                    simp only at K49
                    obtain ⟨k0, k1, k2, k3, k4⟩ := C5.out
                    obtain ⟨t0, t1, t2, t3, t4, t5⟩ := T6.out
                    obtain ⟨a0, a1, a2, a3⟩ := S4.out
                    simp only at k0 k1 k2 k3 k4 t0 t1 t2 t3 t4 t5 a0 a1 a2 a3
                    go_upto_region 17 with fail
                    have Ek0 := fun X : BW _ => upc k0 X.same
                    have Ek1 := fun X : BW _ => upc k1 X.same
                    have Ek2 := fun X : BW _ => upc k2 X.same
                    have Ek3 := fun X : BW _ => upc k3 X.same
                    have Ek4 := fun X : BW _ => upc k4 X.same
                    have Et0 := fun X : BW _ => upc t0 X.same
                    have Et1 := fun X : BW _ => upc t1 X.same
                    have Et2 := fun X : BW _ => upc t2 X.same
                    have Et3 := fun X : BW _ => upc t3 X.same
                    have Et4 := fun X : BW _ => upc t4 X.same
                    have Et5 := fun X : BW _ => upc t5 X.same
                    have Ea0 := fun X : BW _ => upc a0 X.same
                    have Ea1 := fun X : BW _ => upc a1 X.same
                    have Ea2 := fun X : BW _ => upc a2 X.same
                    have Ea3 := fun X : BW _ => upc a3 X.same
                    clear k0 k1 k2 k3 k4 t0 t1 t2 t3 t4 t5 a0 a1 a2 a3
                    refine wp_region_quietB (by kernel_rfl) (by kernel_rfl) ?_
                    repeat (go_big_quiet_step ((go_at_call 49; exact quietB (K49.out _))))
                    refine wpQuiet_nil ?_
                    rintro _ ⟨⟨wu, hbu⟩, rfl⟩
                    replace HB := Lib.hid (HB.out.trans (hbu.mono HB.out.size))
                    replace C5 := Lib.hid (C5.out.up hbu)
                    replace T6 := Lib.hid (T6.out.up hbu)
                    replace S4 := Lib.hid (S4.out.up hbu)
                    replace M4 := Lib.hid (M4.out.up hbu)
                    clear hbu Ek0 Ek1 Ek2 Ek3 Ek4 Et0 Et1 Et2 Et3 Et4 Et5 Ea0 Ea1 Ea2 Ea3
                    obtain ⟨k0, k1, k2, k3, k4⟩ := C5.out
                    obtain ⟨t0, t1, t2, t3, t4, t5⟩ := T6.out
                    obtain ⟨a0, a1, a2, a3⟩ := S4.out
                    simp only at k0 k1 k2 k3 k4 t0 t1 t2 t3 t4 t5 a0 a1 a2 a3
                    go_upto_region 18 with fail
                    have Ek0 := fun X : BW _ => upc k0 X.same
                    have Ek1 := fun X : BW _ => upc k1 X.same
                    have Ek2 := fun X : BW _ => upc k2 X.same
                    have Ek3 := fun X : BW _ => upc k3 X.same
                    have Ek4 := fun X : BW _ => upc k4 X.same
                    have Et0 := fun X : BW _ => upc t0 X.same
                    have Et1 := fun X : BW _ => upc t1 X.same
                    have Et2 := fun X : BW _ => upc t2 X.same
                    have Et3 := fun X : BW _ => upc t3 X.same
                    have Et4 := fun X : BW _ => upc t4 X.same
                    have Et5 := fun X : BW _ => upc t5 X.same
                    have Ea0 := fun X : BW _ => upc a0 X.same
                    have Ea1 := fun X : BW _ => upc a1 X.same
                    have Ea2 := fun X : BW _ => upc a2 X.same
                    have Ea3 := fun X : BW _ => upc a3 X.same
                    clear k0 k1 k2 k3 k4 t0 t1 t2 t3 t4 t5 a0 a1 a2 a3
                    refine wp_region_quietB (by kernel_rfl) (by kernel_rfl) ?_
                    repeat (go_big_quiet_step (fail))
                    refine wpQuiet_nil ?_
                    rintro _ ⟨⟨wu, hbu⟩, rfl⟩
                    replace HB := Lib.hid (HB.out.trans (hbu.mono HB.out.size))
                    replace C5 := Lib.hid (C5.out.up hbu)
                    replace T6 := Lib.hid (T6.out.up hbu)
                    replace S4 := Lib.hid (S4.out.up hbu)
                    replace M4 := Lib.hid (M4.out.up hbu)
                    clear hbu Ek0 Ek1 Ek2 Ek3 Ek4 Et0 Et1 Et2 Et3 Et4 Et5 Ea0 Ea1 Ea2 Ea3
                    obtain ⟨k0, k1, k2, k3, k4⟩ := C5.out
                    obtain ⟨t0, t1, t2, t3, t4, t5⟩ := T6.out
                    obtain ⟨a0, a1, a2, a3⟩ := S4.out
                    simp only at k0 k1 k2 k3 k4 t0 t1 t2 t3 t4 t5 a0 a1 a2 a3
                    obtain ⟨m0, m1, m2, m3⟩ := M4.out
                    simp only at m0 m1 m2 m3
                    cases fx
                    · go_upto_region 20 with fail
                      have Ek0 := fun X : BW _ => upc k0 X.same
                      have Ek1 := fun X : BW _ => upc k1 X.same
                      have Ek2 := fun X : BW _ => upc k2 X.same
                      have Ek3 := fun X : BW _ => upc k3 X.same
                      have Ek4 := fun X : BW _ => upc k4 X.same
                      have Et0 := fun X : BW _ => upc t0 X.same
                      have Et1 := fun X : BW _ => upc t1 X.same
                      have Et2 := fun X : BW _ => upc t2 X.same
                      have Et3 := fun X : BW _ => upc t3 X.same
                      have Et4 := fun X : BW _ => upc t4 X.same
                      have Et5 := fun X : BW _ => upc t5 X.same
                      have Ea0 := fun X : BW _ => upc a0 X.same
                      have Ea1 := fun X : BW _ => upc a1 X.same
                      have Ea2 := fun X : BW _ => upc a2 X.same
                      have Ea3 := fun X : BW _ => upc a3 X.same
                      have Em0 := fun X : BW _ => upc m0 X.same
                      have Em1 := fun X : BW _ => upc m1 X.same
                      have Em2 := fun X : BW _ => upc m2 X.same
                      have Em3 := fun X : BW _ => upc m3 X.same
                      clear k0 k1 k2 k3 k4 t0 t1 t2 t3 t4 t5 a0 a1 a2 a3 m0 m1 m2 m3
                      refine wp_region_quietB (by kernel_rfl) (by kernel_rfl) ?_
                      repeat (go_big_quiet_step ((go_at_call 39; exact quietB (K39.out _))))
                      refine wpQuiet_nil ?_
                      rintro _ ⟨⟨wu, hbu⟩, rfl⟩
                      replace HB := Lib.hid (HB.out.trans (hbu.mono HB.out.size))
                      replace C5 := Lib.hid (C5.out.up hbu)
                      replace T6 := Lib.hid (T6.out.up hbu)
                      replace S4 := Lib.hid (S4.out.up hbu)
                      replace M4 := Lib.hid (M4.out.up hbu)
                      clear hbu Ek0 Ek1 Ek2 Ek3 Ek4 Et0 Et1 Et2 Et3 Et4 Et5 Ea0 Ea1 Ea2 Ea3 Em0 Em1 Em2 Em3
                      go_wp2_with fail
                      go_roundw
                      case rel => exact ⟨k + 1, by omega, by rw [HRS.out], by rw [HMS.out]; simp, by go_num, HB⟩
                      case measure => simp [intOf]; omega
                    · cases ce
                      all_goals
                        go_upto_region 20 with fail
                        have Ek0 := fun X : BW _ => upc k0 X.same
                        have Ek1 := fun X : BW _ => upc k1 X.same
                        have Ek2 := fun X : BW _ => upc k2 X.same
                        have Ek3 := fun X : BW _ => upc k3 X.same
                        have Ek4 := fun X : BW _ => upc k4 X.same
                        have Et0 := fun X : BW _ => upc t0 X.same
                        have Et1 := fun X : BW _ => upc t1 X.same
                        have Et2 := fun X : BW _ => upc t2 X.same
                        have Et3 := fun X : BW _ => upc t3 X.same
                        have Et4 := fun X : BW _ => upc t4 X.same
                        have Et5 := fun X : BW _ => upc t5 X.same
                        have Ea0 := fun X : BW _ => upc a0 X.same
                        have Ea1 := fun X : BW _ => upc a1 X.same
                        have Ea2 := fun X : BW _ => upc a2 X.same
                        have Ea3 := fun X : BW _ => upc a3 X.same
                        have Em0 := fun X : BW _ => upc m0 X.same
                        have Em1 := fun X : BW _ => upc m1 X.same
                        have Em2 := fun X : BW _ => upc m2 X.same
                        have Em3 := fun X : BW _ => upc m3 X.same
                        clear k0 k1 k2 k3 k4 t0 t1 t2 t3 t4 t5 a0 a1 a2 a3 m0 m1 m2 m3
                        refine wp_region_quietB (by kernel_rfl) (by kernel_rfl) ?_
                        repeat (go_big_quiet_step ((first | (go_at_call 39; exact quietB (K39.out _)) | (go_at_call 62; exact quietB (K62.out _)))))
                        refine wpQuiet_nil ?_
                        rintro _ ⟨⟨wu, hbu⟩, rfl⟩
                        replace HB := Lib.hid (HB.out.trans (hbu.mono HB.out.size))
                        replace C5 := Lib.hid (C5.out.up hbu)
                        replace T6 := Lib.hid (T6.out.up hbu)
                        replace S4 := Lib.hid (S4.out.up hbu)
                        replace M4 := Lib.hid (M4.out.up hbu)
                        clear hbu Ek0 Ek1 Ek2 Ek3 Ek4 Et0 Et1 Et2 Et3 Et4 Et5 Ea0 Ea1 Ea2 Ea3 Em0 Em1 Em2 Em3
                        go_wp2_with fail
                        go_roundw
                        case rel => exact ⟨k + 1, by omega, by rw [HRS.out], by rw [HMS.out]; simp, by go_num, HB⟩
                        case measure => simp [intOf]; omega
                · obtain rfl : k = l.length := by omega
                  rw [List.take_length] at hr hq
                  have HF := Lib.hid (RV.out _ _ hr hq)
                  obtain ⟨k0, k1, k2, k3, k4⟩ := C5.out
                  simp only at k2
                  clear k0 k1 k3 k4 hr hq
                  by_cases hs : n < s
                  · have hs' : ¬ s ≤ n := by omega
                    have hd1 : decide (n < s) = true := decide_eq_true hs
                    cases r <;> cases q
                    all_goals
                      go_wp2_with fail
                      go_ret
                      exact ⟨by rw [HF.out, RR.out, hd1]; rfl, WB.out⟩
                  · have hs' : s ≤ n := by omega
                    have hd1 : decide (n < s) = false := decide_eq_false hs
                    cases r <;> cases q
                    all_goals
                      go_wp2_with fail
                      go_ret
                      exact ⟨by rw [HF.out, RR.out, hd1]; rfl, WB.out⟩
end Go.Proofs.Ytomcpgdpjpjioaa
