/- Walk: RulesJudges. -/
import Derived.Test.YtomcpgdpjpjioaaAk
import Derived.Test.YtomcpgdpjpjioaaFq
import Derived.Test.YtomcpgdpjpjioaaFp
import Derived.Test.YtomcpgdpjpjioaaOs
namespace Go.Proofs.Ytomcpgdpjpjioaa
open Go.RowKit Go.Proofs Go.Shelf
attribute [local go_sem] Oper.semAt_some

theorem great16 (A : Option Addr) (n cap : Nat) (x : Th) (A2 : Option Addr) (n2 cap2 : Nat) (w : World) : Calls Try.prog 16 #[.slice A n cap, Thv x (.slice A2 n2 cap2)] w (Back (.bool (decide (20 < n ∨ 20 < n2))) w) := by
  have B : Hid (Below w.heap.size w (w.alloc (Tho x (.slice A2 n2 cap2)))) := (Below.refl _ _).alloc (Nat.le_refl _) _
  obtain ⟨x1, x2, x3, x4, x5⟩ := x
  obtain ⟨q, hq⟩ : ∃ q, decide (20 < n ∨ 20 < n2) = q := ⟨_, rfl⟩
  rw [hq]
  by_cases h1 : 20 < n
  · have h1' : (20 : Int) < (n : Int) := by omega
    obtain rfl : q = true := by rw [← hq]; exact decide_eq_true (.inl h1)
    clear h1 hq
    go_enter Try.func16, Try.ntmps16
    go_wp2_with fail
    go_ret
    exact ⟨rfl, B.out⟩
  · have h1' : ¬ (20 : Int) < (n : Int) := by omega
    by_cases h2 : 20 < n2
    · have h2' : (20 : Int) < (n2 : Int) := by omega
      obtain rfl : q = true := by rw [← hq]; exact decide_eq_true (.inr h2)
      clear h1 h2 hq
      go_enter Try.func16, Try.ntmps16
      go_wp2_with fail
      go_ret
      exact ⟨rfl, B.out⟩
    · have h2' : ¬ (20 : Int) < (n2 : Int) := by omega
      obtain rfl : q = false := by rw [← hq]; exact decide_eq_false (by omega)
      clear h1 h2 hq
      go_enter Try.func16, Try.ntmps16
      go_wp2_with fail
      go_ret
      exact ⟨rfl, B.out⟩
/-- A ruling in a variable. -/
def JdW (W : World) (b : Nat) (r ch : Int) (v : Value) (P : List Pr) : Prop := R3 W b r ch v ∧ RulW W v P
theorem JdW.up {W W' : World} {b : Nat} {r ch : Int} {v : Value} {P : List Pr} (h : JdW W b r ch v P) (hb : Below W.heap.size W W') : JdW W' b r ch v P := ⟨h.1.up hb, h.2.up hb⟩
theorem JdW.new {W : World} {r ch : Int} {v : Value} {P : List Pr} (h : RulW W v P) : JdW (W.alloc (.cells #[.int .i64 r, .int .i64 ch, v] 40)) W.heap.size r ch v P :=
  ⟨R3.new W r ch v, h.up ((Below.refl _ _).alloc (Nat.le_refl _) _)⟩
/-- The two parameters, in variables. -/
def PaS (w W : World) (c : Cd) (x : Th) (u : Value) : Prop := Below w.heap.size w W ∧ Cd5 W w.heap.size c ∧ Th6 W (w.heap.size + 1) x u
theorem PaS.up {w W W' : World} {c : Cd} {x : Th} {u : Value} (h : PaS w W c x u) (hb : Below W.heap.size W W') : PaS w W' c x u := ⟨h.1.trans (hb.mono h.1.size), h.2.1.up hb, h.2.2.up hb⟩
theorem PaS.below {w W : World} {c : Cd} {x : Th} {u : Value} (h : PaS w W c x u) : Below w.heap.size w W := h.1
theorem PaS.new (w : World) (c : Cd) (x : Th) (u : Value) : PaS w ((w.alloc (.cells #[.int .i64 c.f, .int .i64 c.t, .int .i64 c.s, .int .i64 c.e, .bool c.p] 23)).alloc (Tho x u)) c x u := by
  have b0 : Below w.heap.size w (w.alloc (.cells #[.int .i64 c.f, .int .i64 c.t, .int .i64 c.s, .int .i64 c.e, .bool c.p] 23)) := (Below.refl _ _).alloc (Nat.le_refl _) _
  have k1 := Th6.new (w.alloc (.cells #[.int .i64 c.f, .int .i64 c.t, .int .i64 c.s, .int .i64 c.e, .bool c.p] 23)) x u
  simp only [World.size_alloc] at k1
  exact ⟨b0.alloc (by simp) _, (Cd5.new w c).up ((Below.refl _ _).alloc (Nat.le_refl _) _), k1⟩

set_option maxRecDepth 100000 in
set_option maxHeartbeats 8000000 in
theorem Judges_any (c : Cd) (n : Int) (x : Th) (l m : List St) (v u : Value) (w : World) (hv : RowS w v l) (hu : RowS w u m) (hl : l.length ≤ 20) (hm : m.length ≤ 20) : Calls Try.prog 4 #[Cdv c, .int .i64 n, v, Thv x u] w (Back (.bool true) w) := by
  have HV := Lib.hid hv
  have HU := Lib.hid hu
  obtain ⟨A, cap, rfl⟩ := hv.form
  obtain ⟨A2, cap2, rfl⟩ := hu.form
  have H16 : Hid (∀ W, Calls Try.prog 16 #[.slice A l.length cap, Thv x (.slice A2 m.length cap2)] W (Back (.bool false) W)) := fun W => by
    have := great16 A l.length cap x A2 m.length cap2 W
    rwa [decide_eq_false (by omega)] at this
  obtain ⟨r, hr⟩ : ∃ r, juR c n x l m = r := ⟨_, rfl⟩
  obtain ⟨ch, hch⟩ : ∃ r, juCh c n x l m = r := ⟨_, rfl⟩
  obtain ⟨E, hE⟩ : ∃ r, juE c n x l m = r := ⟨_, rfl⟩
  obtain ⟨P, hP⟩ : ∃ r, juP c n x l m = r := ⟨_, rfl⟩
  have H17 : Hid (∀ W, Below w.heap.size w W → Calls Try.prog 17 #[Cdv c, .int .i64 n, .slice A l.length cap, Thv x (.slice A2 m.length cap2)] W fun e w' => (∃ A n c, e = .returned (.tuple #[.agg #[.int .i64 r, .int .i64 ch, .slice A n c], .int .i64 E]) ∧ RulW w' (.slice A n c) P) ∧ Below W.heap.size W w') := fun W h => by
    refine (Judge_any c n x l m _ _ W (HV.out.up h) (HU.out.up h)).mono ?_
    rintro e w' ⟨⟨v', rfl, hv'⟩, hb⟩
    rw [hP] at hv'
    obtain ⟨A', c', rfl⟩ := hv'.form
    exact ⟨⟨A', _, c', by rw [hr, hch, hE], hv'.rulW⟩, hb⟩
  have H18 : Hid (∀ W, Below w.heap.size w W → Calls Try.prog 18 #[Cdv c, .int .i64 n, .slice A l.length cap, Thv x (.slice A2 m.length cap2)] W fun e w' => (∃ A n c, e = .returned (.tuple #[.agg #[.int .i64 r, .int .i64 ch, .slice A n c], .int .i64 E]) ∧ RulW w' (.slice A n c) P) ∧ Below W.heap.size W w') := fun W h => by
    refine (refJudge c n x l m _ _ W (HV.out.up h) (HU.out.up h)).mono ?_
    rintro e w' ⟨⟨v', rfl, hv'⟩, hb⟩
    rw [hP] at hv'
    obtain ⟨A', c', rfl⟩ := hv'.form
    exact ⟨⟨A', _, c', by rw [hr, hch, hE], hv'⟩, hb⟩
  obtain ⟨k, hk⟩ : ∃ k, thrB l m x = k := ⟨_, rfl⟩
  have H19 : Hid (∀ W, Below w.heap.size w W → Calls Try.prog 19 #[.slice A l.length cap, Thv x (.slice A2 m.length cap2)] W (Back (.bool k) W)) := fun W h => by rw [← hk]; exact CheckThrow_any l m x _ _ W (HV.out.up h) (HU.out.up h)
  have H20 : Hid (∀ W, Below w.heap.size w W → Calls Try.prog 20 #[.slice A l.length cap, Thv x (.slice A2 m.length cap2)] W (Back (.bool k) W)) := fun W h => by rw [← hk]; exact refThrow l m x _ _ W (HV.out.up h) (HU.out.up h)
  have K0 := Lib.hid (PaS.new w c x (.slice A2 m.length cap2))
  clear hv hu hr hch hE hP hk
  obtain ⟨x1, x2, x3, x4, x5⟩ := x
  obtain ⟨f, t, s, e, p⟩ := c
  go_enter Try.func4, Try.ntmps4
  go_upto_region 1 with fail
  generalize hwx : World.alloc (World.alloc w _) _ = wx
  have S : Hid (PaS w wx ⟨f, t, s, e, p⟩ ⟨x1, x2, x3, x4, x5⟩ (.slice A2 m.length cap2)) := by show PaS _ _ _ _ _; rw [← hwx]; exact K0.out
  clear hwx K0
  obtain ⟨-, ⟨a0, a1, a2, a3, a4⟩, c0, c1, c2, c3, c4, c5⟩ := S.out
  simp only at a0 a1 a2 a3 a4 c0 c1 c2 c3 c4
  go_upto_region 4 with (first
    | (go_at_call 16; (with_reducible refine (H16.out _).mono ?_); rintro e1 w1 ⟨rfl, hb1⟩; replace S := Lib.hid (S.out.up hb1); clear hb1 a0 a1 a2 a3 a4 c0 c1 c2 c3 c4 c5; obtain ⟨-, ⟨a0, a1, a2, a3, a4⟩, c0, c1, c2, c3, c4, c5⟩ := S.out; simp only at a0 a1 a2 a3 a4 c0 c1 c2 c3 c4)
    | (go_at_call 17; (with_reducible refine (H17.out _ (PaS.below S.out)).mono ?_); rintro e1 w2 ⟨⟨A5, n5, c5', rfl, hr5⟩, hb1⟩; have R5 := Lib.hid hr5; replace S := Lib.hid (S.out.up hb1); clear hr5 hb1 a0 a1 a2 a3 a4 c0 c1 c2 c3 c4 c5))
  generalize hwy : World.alloc w2 _ = wy
  have J1 : Hid (JdW wy w2.heap.size r ch (.slice A5 n5 c5') P) := by show JdW _ _ _ _ _ _; rw [← hwy]; exact JdW.new R5.out
  have hby : Below w2.heap.size w2 wy := by rw [← hwy]; exact (Below.refl _ _).alloc (Nat.le_refl _) _
  replace S := Lib.hid (S.out.up hby)
  obtain ⟨pa, hpa⟩ : ∃ p, w2.heap.size = p := ⟨_, rfl⟩
  rw [hpa] at J1
  rw [hpa]
  clear hwy hby hpa R5 H16 H17
  obtain ⟨-, ⟨a0, a1, a2, a3, a4⟩, c0, c1, c2, c3, c4, c5⟩ := S.out
  simp only at a0 a1 a2 a3 a4 c0 c1 c2 c3 c4
  go_upto_region 5 with (go_at_call 18; (with_reducible refine (H18.out _ (PaS.below S.out)).mono ?_); rintro e1 w3 ⟨⟨A6, n6, c6', rfl, hr6⟩, hb1⟩; have R6 := Lib.hid hr6; replace S := Lib.hid (S.out.up hb1); replace J1 := Lib.hid (J1.out.up hb1); clear hr6 hb1 a0 a1 a2 a3 a4 c0 c1 c2 c3 c4 c5)
  generalize hwz : World.alloc w3 _ = wz
  have J2 : Hid (JdW wz w3.heap.size r ch (.slice A6 n6 c6') P) := by show JdW _ _ _ _ _ _; rw [← hwz]; exact JdW.new R6.out
  have hbz : Below w3.heap.size w3 wz := by rw [← hwz]; exact (Below.refl _ _).alloc (Nat.le_refl _) _
  replace S := Lib.hid (S.out.up hbz)
  replace J1 := Lib.hid (J1.out.up hbz)
  obtain ⟨pb, hpb⟩ : ∃ p, w3.heap.size = p := ⟨_, rfl⟩
  rw [hpb] at J2
  rw [hpb]
  clear hwz hbz hpb R6 H18
  obtain ⟨-, -, c0, c1, c2, c3, c4, c5⟩ := S.out
  obtain ⟨⟨p0, p1, p2⟩, -⟩ := J1.out.1.cells
  obtain ⟨⟨q0, q1, q2⟩, -⟩ := J2.out.1.cells
  simp only at c0 c1 c2 c3 c4
  have K0 := fun X : BW wz => upc c0 X.same
  have K1 := fun X : BW wz => upc c1 X.same
  have K2 := fun X : BW wz => upc c2 X.same
  have K3 := fun X : BW wz => upc c3 X.same
  have K4 := fun X : BW wz => upc c4 X.same
  have K5 := fun X : BW wz => upc c5 X.same
  have P0 := fun X : BW wz => upc p0 X.same
  have P1 := fun X : BW wz => upc p1 X.same
  have P2 := fun X : BW wz => upc p2 X.same
  have Q0 := fun X : BW wz => upc q0 X.same
  have Q1 := fun X : BW wz => upc q1 X.same
  have Q2 := fun X : BW wz => upc q2 X.same
  have G19 : Hid (∀ X : BW wz, Calls Try.prog 19 #[.slice A l.length cap, .agg #[.int .i64 x1, .int .i64 x2, .bool x3, .bool x4, .int .i64 x5, .slice A2 m.length cap2]] X.to (Back (.bool k) X.to)) := fun X => H19.out X.to (S.out.1.trans (X.same.mono S.out.1.size))
  have G20 : Hid (∀ X : BW wz, Calls Try.prog 20 #[.slice A l.length cap, .agg #[.int .i64 x1, .int .i64 x2, .bool x3, .bool x4, .int .i64 x5, .slice A2 m.length cap2]] X.to (Back (.bool k) X.to)) := fun X => H20.out X.to (S.out.1.trans (X.same.mono S.out.1.size))
  have G21 : Hid (∀ X : BW wz, Calls Try.prog 21 #[.agg #[.int .i64 r, .int .i64 ch, .slice A5 n5 c5'], .agg #[.int .i64 r, .int .i64 ch, .slice A6 n6 c6']] X.to (Back (.bool true) X.to)) := fun X => sameW r ch _ _ P X.to (J1.out.2.up X.same) (J2.out.2.up X.same)
  have G8 := Lib.hid (fun W => awake_any W)
  clear c0 c1 c2 c3 c4 c5 p0 p1 p2 q0 q1 q2 H19 H20
  refine wp_region_quietB (by kernel_rfl) (by kernel_rfl) ?_
  repeat (go_big_quiet_step ((first | (go_at_call 19; exact quietB (G19.out _)) | (go_at_call 20; exact quietB (G20.out _)) | (go_at_call 21; exact quietB (G21.out _)) | (go_at_call 8; exact quietB (G8.out _)))))
  refine wpQuiet_nil ?_
  rintro _ ⟨⟨wu, hbu⟩, rfl⟩
  replace S := Lib.hid (S.out.up hbu)
  clear K0 K1 K2 K3 K4 K5 P0 P1 P2 Q0 Q1 Q2 hbu
  go_wp2_with fail
  go_ret
  exact ⟨rfl, S.out.1⟩
set_option maxHeartbeats 1000000 in
theorem Judges_big (c : Cd) (n : Int) (x : Th) (A : Option Addr) (n1 cap : Nat) (A2 : Option Addr) (n2 cap2 : Nat) (w : World) (h : 20 < n1 ∨ 20 < n2) : Calls Try.prog 4 #[Cdv c, .int .i64 n, .slice A n1 cap, Thv x (.slice A2 n2 cap2)] w (Back (.bool true) w) := by
  have H16 : Hid (∀ W, Calls Try.prog 16 #[.slice A n1 cap, Thv x (.slice A2 n2 cap2)] W (Back (.bool true) W)) := fun W => by
    have := great16 A n1 cap x A2 n2 cap2 W
    rwa [decide_eq_true h] at this
  have K0 := Lib.hid (PaS.new w c x (.slice A2 n2 cap2))
  obtain ⟨x1, x2, x3, x4, x5⟩ := x
  obtain ⟨f, t, s, e, p⟩ := c
  clear h
  go_enter Try.func4, Try.ntmps4
  go_upto_region 1 with fail
  generalize hwx : World.alloc (World.alloc w _) _ = wx
  have S : Hid (PaS w wx ⟨f, t, s, e, p⟩ ⟨x1, x2, x3, x4, x5⟩ (.slice A2 n2 cap2)) := by show PaS _ _ _ _ _; rw [← hwx]; exact K0.out
  clear hwx K0
  obtain ⟨-, -, c0, c1, c2, c3, c4, c5⟩ := S.out
  simp only at c0 c1 c2 c3 c4
  go_wp2_with (first
    | (go_at_call 16; (with_reducible refine (H16.out _).mono ?_); rintro e1 w1 ⟨rfl, hb1⟩; replace S := Lib.hid (S.out.up hb1); clear hb1 c0 c1 c2 c3 c4 c5)
    | (go_at_call 8; refine (awake_any _).mono ?_; rintro e1 w1 ⟨rfl, hb1⟩; replace S := Lib.hid (S.out.up hb1); clear hb1))
  go_ret
  exact ⟨rfl, S.out.1⟩
theorem Judges_law (c : Cd) (n : Int) (A : Option Addr) (n1 cap : Nat) (x : Th) (A2 : Option Addr) (n2 cap2 : Nat) (w : World) (h1 : n1 ≤ 281474976710656 → ∃ l : List St, l.length = n1 ∧ RowS w (.slice A n1 cap) l) (_ : thWf x) (h2 : n2 ≤ 281474976710656 → ∃ l : List St, l.length = n2 ∧ RowS w (.slice A2 n2 cap2) l) :
    Calls Try.prog 4 #[Cdv c, .int .i64 n, .slice A n1 cap, Thv x (.slice A2 n2 cap2)] w (Back (.bool true) w) := by
  by_cases h : 20 < n1 ∨ 20 < n2
  · exact Judges_big c n x A n1 cap A2 n2 cap2 w h
  · obtain ⟨l, hl, hr⟩ := h1 (by omega)
    obtain ⟨m, hm, hr2⟩ := h2 (by omega)
    exact Judges_any c n x l m _ _ w hr hr2 (by omega) (by omega)
end Go.Proofs.Ytomcpgdpjpjioaa
