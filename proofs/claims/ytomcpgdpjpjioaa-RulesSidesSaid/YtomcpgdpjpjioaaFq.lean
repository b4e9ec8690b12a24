/- Contract of the document's Judge. -/
import Derived.Test.YtomcpgdpjpjioaaFp
import Derived.Test.YtomcpgdpjpjioaaFo
import Derived.Test.YtomcpgdpjpjioaaFn
namespace Go.Proofs.Ytomcpgdpjpjioaa
open Go.RowKit Go.Proofs Go.Shelf
attribute [local go_sem] Oper.semAt_some

theorem sorted41 (l : List St) (v : Value) (w : World) (hrow : RowS w v l) (hl : l.length ≤ 900) (hs : srtQ l 16 = srt l) :
    Calls Try.prog 41 #[v] w fun e w' => (∃ A c, e = .returned (.slice A (srt l).length c) ∧ RowS w' (.slice A (srt l).length c) (srt l) ∧ ∀ g o, A = some ⟨g, o, none⟩ → w.heap.size ≤ g ∧ g < w'.heap.size) ∧ Below w.heap.size w w' := by
  refine (Sorted41 l v w hrow hl).mono ?_
  rintro e w' ⟨⟨u, rfl, ho⟩, hb⟩
  rw [hs] at ho
  obtain ⟨A, c, rfl, hA⟩ := own_form ho
  exact ⟨⟨A, c, rfl, RowS.of_own ho (by rw [srt_len]; omega), hA⟩, hb⟩
theorem dist44J (w W : World) (c : Cd) (x : Th) (u : Value) (pr : Nat) (k ch : Int) (M : List (Nat × Oc)) (L : List Oc) (cs : Array Value) (hc : cs.toList = L.flatMap oC) (hJ : RfR w W c x u pr k ch M) (hM : ∀ p ∈ L, ∃ q ∈ M, q.2 = p) (hl : L.length ≤ 900) (hpr : pr < W.heap.size) :
    Calls Try.prog 44 #[.slice (some ⟨W.heap.size, 0, none⟩) L.length L.length] (W.alloc (.cells cs 46)) fun e w' => ∃ A n cp, e = .returned (.slice A n cp) ∧ RfR w w' c x u pr k ch M ∧ RowO w' (.slice A n cp) (dd L) ∧ (∀ b o, A = some ⟨b, o, none⟩ → pr + 1 ≤ b) ∧ n = (dd L).length := by
  have b0 : Below W.heap.size W (W.alloc (.cells cs 46)) := (Below.refl _ _).alloc (Nat.le_refl _) _
  have hJ0 := hJ.up b0
  have hR : OcR (W.alloc (.cells cs 46)) L := fun p hp => by
    obtain ⟨q, hq, rfl⟩ := hM p hp
    obtain ⟨hi, h1, -⟩ := hJ0
    exact (h1.2.2.2.2.2 q hq).2.2.1
  refine (dist44 L _ _ (RowO.new W L cs hc (by omega)) hR hl).mono ?_
  rintro e w' ⟨⟨A, cp, rfl, ho⟩, hb⟩
  have hdl : (dd L).length ≤ L.length := by
    have := dd_len L L.length (Nat.le_refl _)
    rwa [List.take_length] at this
  refine ⟨A, _, cp, rfl, hJ0.up hb, RowO.of_own ho (by omega), ?_, rfl⟩
  rintro b o rfl
  rcases ho.2 with ⟨e, -⟩ | ⟨g, cap, cur, e, hbg, -⟩
  · cases e
  · injection e with e _ _
    injection e with e
    injection e with e
    have : (W.alloc (.cells cs 46)).heap.size = W.heap.size + 1 := by simp
    omega

set_option maxRecDepth 100000 in
set_option maxHeartbeats 16000000 in
theorem refJudge (c : Cd) (n : Int) (x : Th) (l m : List St) (v u : Value) (w : World) (hv : RowS w v l) (hu : RowS w u m) : Calls Try.prog 18 #[Cdv c, .int .i64 n, v, Thv x u] w (JugW c n x l m w) := by
  have HV := Lib.hid hv
  have HU := Lib.hid hu
  have H14 := Lib.hid (fun w => refCheckCode c w)
  have H20 : Hid (∀ W, Below w.heap.size w W → Calls Try.prog 20 #[v, Thv x u] W (Back (.bool (thrB l m x)) W)) := fun W hW => refThrow l m x v u W (hv.up hW) (hu.up hW)
  have H37 : Hid (∀ w, Calls Try.prog 37 #[.int .i64 n, .int .i64 0, .int .i64 16] w fun e w' => e = .returned (.bool (decide (0 ≤ n ∧ n ≤ 16))) ∧ w = w') := fun w => rin _ _ _ w
  obtain ⟨A, cap, rfl⟩ := hv.form
  obtain ⟨A2, cap2, rfl⟩ := hu.form
  obtain ⟨k0, hk0⟩ : ∃ k, ccB c = k := ⟨_, rfl⟩
  obtain ⟨k1, hk1⟩ : ∃ k, thrB l m x = k := ⟨_, rfl⟩
  obtain ⟨k3, hk3⟩ : ∃ k, decide (0 ≤ n ∧ n ≤ 16) = k := ⟨_, rfl⟩
  have HE : Hid (juE c n x l m = if k0 && k1 then (if k3 = true then 0 else 4) else 2) := by
    show _ = _
    unfold juE
    rw [hk0, hk1, ← hk3]
    simp
  have HF : Hid (k1 = true → chkB l = true ∧ chkB m = true ∧ 0 ≤ x.team ∧ x.team ≤ 1) := fun h => thrB_facts (hk1.trans h)
  rw [hk0] at H14
  rw [hk1] at H20
  rw [hk3] at H37
  have HFIN : Hid (∀ (k r ch : Int) (v : Value) (W : World), juE c n x l m = k → (k ≠ 0 → r = 0 ∧ ch = 0 ∧ RulW W v []) → (k = 0 → r = juN c n x l m ∧ ch = judC (juN c n x l m) x ∧ RulW W v (judP (juN c n x l m) x l m)) → Below w.heap.size w W → JugW c n x l m w (.returned (.tuple #[Rlv r ch v, .int .i64 k])) W) := by
    intro k r ch v W hk h1 h2 hb
    unfold JugW juR juCh juP
    rw [hk]
    by_cases e : k = 0
    · obtain ⟨e1, e2, e3⟩ := h2 e
      rw [if_pos e, if_pos e, if_pos e, ← e1, ← e2]
      exact ⟨⟨_, rfl, e3⟩, hb⟩
    · obtain ⟨e1, e2, e3⟩ := h1 e
      rw [if_neg e, if_neg e, if_neg e, e1, e2]
      exact ⟨⟨_, rfl, e3⟩, hb⟩
  clear hv hu hk0 hk1 hk3
  have K0 : Hid (∀ W, W = (((w.alloc (.cells #[.int .i64 c.f, .int .i64 c.t, .int .i64 c.s, .int .i64 c.e, .bool c.p] 23)).alloc (Tho x (.slice A2 m.length cap2))).alloc (.cells #[.int .i64 0, .int .i64 0, .slice none 0 0] 40)) → RfS w W c x (.slice A2 m.length cap2) (w.heap.size + 3) []) := by
    rintro W rfl
    have b0 : Below w.heap.size w (w.alloc (.cells #[.int .i64 c.f, .int .i64 c.t, .int .i64 c.s, .int .i64 c.e, .bool c.p] 23)) := (Below.refl _ _).alloc (Nat.le_refl _) _
    have k0 := Cd5.new w c
    have k1 := Th6.new (w.alloc (.cells #[.int .i64 c.f, .int .i64 c.t, .int .i64 c.s, .int .i64 c.e, .bool c.p] 23)) x (.slice A2 m.length cap2)
    have k2 := R3.new ((w.alloc (.cells #[.int .i64 c.f, .int .i64 c.t, .int .i64 c.s, .int .i64 c.e, .bool c.p] 23)).alloc (Tho x (.slice A2 m.length cap2))) 0 0 (.slice none 0 0)
    simp only [World.size_alloc] at k1 k2
    exact ⟨(b0.alloc (by simp) _).alloc (by simp; omega) _, k1.kept (World.grownBy_alloc _ _ none) (by simp), k2, (k0.up ((Below.refl _ _).alloc (Nat.le_refl _) _)).up ((Below.refl _ _).alloc (Nat.le_refl _) _), ⟨Nat.le_refl _, by simp⟩, fun _ h => by cases h⟩
  have H43 : Hid (k1 = true → ∀ W, Below w.heap.size w W → Calls Try.prog 43 #[Cdv c, .int .i64 n, .slice A l.length cap, Thv x (.slice A2 m.length cap2)] W (Back (.int .i64 (juN c n x l m)) W)) := fun h W hW => rule43 c n x l m _ _ W (HV.out.up hW) (HU.out.up hW) (chk_dis (HF.out h).2.1) (by have := (chk_facts (HF.out h).1).1; omega)
  obtain ⟨x1, x2, x3, x4, x5⟩ := x
  obtain ⟨f, t, s, e, p⟩ := c
  go_enter Try.func18, Try.ntmps18
  go_upto_region 1 with fail
  generalize hwx : World.alloc (World.alloc (World.alloc w _) _) _ = wx
  have RS := Lib.hid (K0.out wx hwx.symm)
  clear hwx K0
  obtain ⟨-, ⟨c0, c1, c2, c3, c4, c5⟩, hr3, ⟨a0, a1, a2, a3, a4⟩, -⟩ := RS.out
  obtain ⟨⟨z0, z1, z2⟩, i0, i1, i2⟩ := hr3.cells
  simp only at a0 a1 a2 a3 a4 c0 c1 c2 c3 c4
  clear hr3
  rcases k0 with _ | _ <;> rcases k1 with _ | _ <;> rcases k3 with _ | _
  case true.true.true =>
    have HF' := HF.out (by trivial)
    obtain ⟨hl, hm, ht0, ht1⟩ := HF'
    simp only at ht0 ht1
    have hL16 := (chk_facts hl).1
    have hM16 := (chk_facts hm).1
    have HL := Lib.hid hl
    have HM := Lib.hid hm
    have H41l : Hid (∀ W, Below w.heap.size w W → Calls Try.prog 41 #[.slice A l.length cap] W fun e w' => (∃ A c, e = .returned (.slice A (srt l).length c) ∧ RowS w' (.slice A (srt l).length c) (srt l) ∧ ∀ g o, A = some ⟨g, o, none⟩ → W.heap.size ≤ g ∧ g < w'.heap.size) ∧ Below W.heap.size W w') := fun W h => sorted41 l _ W (HV.out.up h) (by omega) (srtQ_srt (chk_bnd HL.out) (chk_dis HL.out) (chk_pw HL.out))
    have H41m : Hid (∀ W, Below w.heap.size w W → Calls Try.prog 41 #[.slice A2 m.length cap2] W fun e w' => (∃ A c, e = .returned (.slice A (srt m).length c) ∧ RowS w' (.slice A (srt m).length c) (srt m) ∧ ∀ g o, A = some ⟨g, o, none⟩ → W.heap.size ≤ g ∧ g < w'.heap.size) ∧ Below W.heap.size W w') := fun W h => sorted41 m _ W (HU.out.up h) (by omega) (srtQ_srt (chk_bnd HM.out) (chk_dis HM.out) (chk_pw HM.out))
    have H42 : Hid (∀ W, Below w.heap.size w W → Calls Try.prog 42 #[.slice A2 m.length cap2, .int .i64 x1, .int .i64 x2] W fun e w' => (∃ u, e = .returned u ∧ OwnS W.heap.size w' u (goneR x1 x2 m)) ∧ Below W.heap.size W w') := fun W h => without42 x1 x2 m _ W (HU.out.up h) (by omega)
    have H43' : Hid (∀ W, Below w.heap.size w W → Calls Try.prog 43 #[.agg #[.int .i64 f, .int .i64 t, .int .i64 s, .int .i64 e, .bool p], .int .i64 n, .slice A l.length cap, Thv ⟨x1, x2, x3, x4, x5⟩ (.slice A2 m.length cap2)] W (Back (.int .i64 (juN ⟨f, t, s, e, p⟩ n ⟨x1, x2, x3, x4, x5⟩ l m)) W)) := H43.out (by trivial)
    clear hl hm H43 HF
    go_upto_region 6 with (first
      | (go_at_call 14; (with_reducible refine (H14.out _).mono ?_); rintro e1 w1 ⟨rfl, hb1⟩; replace RS := Lib.hid (RS.out.up hb1); clear hb1 a0 a1 a2 a3 a4 c0 c1 c2 c3 c4 c5 z0 z1 z2 i0 i1 i2; obtain ⟨-, ⟨c0, c1, c2, c3, c4, c5⟩, hr3, ⟨a0, a1, a2, a3, a4⟩, -⟩ := RS.out; obtain ⟨⟨z0, z1, z2⟩, i0, i1, i2⟩ := hr3.cells; simp only at a0 a1 a2 a3 a4 c0 c1 c2 c3 c4; clear hr3)
      | (go_at_call 20; (with_reducible refine (H20.out _ (RfS.below RS.out)).mono ?_); rintro e1 w2 ⟨rfl, hb1⟩; replace RS := Lib.hid (RS.out.up hb1); clear hb1 a0 a1 a2 a3 a4 c0 c1 c2 c3 c4 c5 z0 z1 z2 i0 i1 i2; obtain ⟨-, ⟨c0, c1, c2, c3, c4, c5⟩, hr3, ⟨a0, a1, a2, a3, a4⟩, -⟩ := RS.out; obtain ⟨⟨z0, z1, z2⟩, i0, i1, i2⟩ := hr3.cells; simp only at a0 a1 a2 a3 a4 c0 c1 c2 c3 c4; clear hr3)
      | (go_at_call 37; (with_reducible refine (H37.out _).mono ?_); rintro e1 w3 ⟨rfl, rfl⟩)
      | (go_at_call 41; (with_reducible refine (H41l.out _ (RfS.below RS.out)).mono ?_); rintro e1 w4 ⟨⟨A4, c4', rfl, hr4, hA4⟩, hb1⟩; have hlo := RS.out.2.2.2.2.1; have R4 := Lib.hid hr4; have HA4 : Hid (∀ g o, A4 = some ⟨g, o, none⟩ → w.heap.size + 3 ≤ g ∧ g < w4.heap.size) := (fun g o h => by have := hA4 g o h; omega); clear hr4 hA4 hlo; replace RS := Lib.hid (RS.out.up hb1); clear hb1 a0 a1 a2 a3 a4 c0 c1 c2 c3 c4 c5 z0 z1 z2 i0 i1 i2; obtain ⟨-, ⟨c0, c1, c2, c3, c4, c5⟩, hr3, ⟨a0, a1, a2, a3, a4⟩, -⟩ := RS.out; obtain ⟨⟨z0, z1, z2⟩, i0, i1, i2⟩ := hr3.cells; simp only at a0 a1 a2 a3 a4 c0 c1 c2 c3 c4; clear hr3))
    clear a0 a1 a2 a3 a4 c0 c1 c2 c3 c4 c5 z0 z1 z2 i0 i1 i2
    generalize hwB : World.alloc w4 _ = wb
    have RSB : Hid (RfS w wb ⟨f, t, s, e, p⟩ ⟨x1, x2, x3, x4, x5⟩ (.slice A2 m.length cap2) (w4.heap.size + 1) ((w4.heap.size, ⟨.slice A4 (srt l).length c4', srt l, false⟩) :: [])) := by show RfS _ _ _ _ _ _ _; rw [← hwB]; exact RS.out.cons R4.out (Nat.le_refl _) HA4.out rfl
    obtain ⟨pb, hpb⟩ : ∃ p, w4.heap.size = p := ⟨_, rfl⟩
    rw [hpb] at RSB
    rw [hpb]
    clear hwB hpb RS
    have RS := RSB
    clear RSB
    obtain ⟨-, ⟨c0, c1, c2, c3, c4, c5⟩, hr3, ⟨a0, a1, a2, a3, a4⟩, -⟩ := RS.out
    obtain ⟨⟨z0, z1, z2⟩, i0, i1, i2⟩ := hr3.cells
    simp only at a0 a1 a2 a3 a4 c0 c1 c2 c3 c4
    clear hr3
    go_upto_region 7 with (go_at_call 41; (with_reducible refine (H41m.out _ (RfS.below RS.out)).mono ?_); rintro e1 w5 ⟨⟨A5, c5', rfl, hr5, hA5⟩, hb1⟩; have hlo := RS.out.2.2.2.2.1; have R5 := Lib.hid hr5; have HA5 : Hid (∀ g o, A5 = some ⟨g, o, none⟩ → w.heap.size + 3 ≤ g ∧ g < w5.heap.size) := (fun g o h => by have := hA5 g o h; omega); clear hr5 hA5 hlo; replace RS := Lib.hid (RS.out.up hb1); clear hb1 a0 a1 a2 a3 a4 c0 c1 c2 c3 c4 c5 z0 z1 z2 i0 i1 i2; obtain ⟨-, ⟨c0, c1, c2, c3, c4, c5⟩, hr3, ⟨a0, a1, a2, a3, a4⟩, -⟩ := RS.out; obtain ⟨⟨z0, z1, z2⟩, i0, i1, i2⟩ := hr3.cells; simp only at a0 a1 a2 a3 a4 c0 c1 c2 c3 c4; clear hr3)
    clear a0 a1 a2 a3 a4 c0 c1 c2 c3 c4 c5 z0 z1 z2 i0 i1 i2
    generalize hwA : World.alloc w5 _ = wa
    have RSA : Hid (RfS w wa ⟨f, t, s, e, p⟩ ⟨x1, x2, x3, x4, x5⟩ (.slice A2 m.length cap2) (w5.heap.size + 1) ((w5.heap.size, ⟨.slice A5 (srt m).length c5', srt m, false⟩) :: [(pb, ⟨.slice A4 (srt l).length c4', srt l, false⟩)])) := by show RfS _ _ _ _ _ _ _; rw [← hwA]; exact RS.out.cons R5.out (Nat.le_refl _) HA5.out rfl
    obtain ⟨pa, hpa⟩ : ∃ p, w5.heap.size = p := ⟨_, rfl⟩
    rw [hpa] at RSA
    rw [hpa]
    clear hwA hpa RS
    have RS := RSA
    clear RSA
    have R4 : Hid (RowS wa (.slice A4 (srt l).length c4') (srt l)) := (RS.out.2.2.2.2.2 (pb, ⟨.slice A4 (srt l).length c4', srt l, false⟩) (by simp)).2.2.1
    have HA4 : Hid (∀ g o, A4 = some ⟨g, o, none⟩ → w.heap.size + 3 ≤ g ∧ g < wa.heap.size) := fun g o h => by
      obtain ⟨A', n', c', he, hA'⟩ := (RS.out.2.2.2.2.2 (pb, ⟨.slice A4 (srt l).length c4', srt l, false⟩) (by simp)).2.2.2
      injection he with e1 _ _
      have h1 := hA' g o (by rw [← e1]; exact h)
      have h2 := RS.out.2.2.2.2.1
      omega
    obtain ⟨b0, b1⟩ := (RS.out.2.2.2.2.2 (pb, ⟨.slice A4 (srt l).length c4', srt l, false⟩) (by simp)).1
    simp only [Nat.zero_add] at b0 b1
    go_upto_region 8 with fail
    clear b0 b1
    generalize hwG : World.alloc wa _ = wg
    have RSG : Hid (RfS w wg ⟨f, t, s, e, p⟩ ⟨x1, x2, x3, x4, x5⟩ (.slice A2 m.length cap2) (wa.heap.size + 1) ((wa.heap.size, ⟨.slice A4 (srt l).length c4', srt l, true⟩) :: [(pa, ⟨.slice A5 (srt m).length c5', srt m, false⟩), (pb, ⟨.slice A4 (srt l).length c4', srt l, false⟩)])) := by show RfS _ _ _ _ _ _ _; rw [← hwG]; exact RS.out.cons R4.out (Nat.le_refl _) HA4.out rfl
    obtain ⟨pg, hpg⟩ : ∃ p, wa.heap.size = p := ⟨_, rfl⟩
    rw [hpg] at RSG
    rw [hpg]
    clear hwG hpg RS
    have RS := RSG
    clear RSG
    clear R4 HA4
    obtain ⟨-, ⟨c0, c1, c2, c3, c4, c5⟩, hr3, ⟨a0, a1, a2, a3, a4⟩, -⟩ := RS.out
    obtain ⟨⟨z0, z1, z2⟩, i0, i1, i2⟩ := hr3.cells
    simp only at a0 a1 a2 a3 a4 c0 c1 c2 c3 c4
    clear hr3
    go_upto_region 9 with (first
      | (go_at_call 42; (with_reducible refine (H42.out _ (RfS.below RS.out)).mono ?_); rintro e1 w6 ⟨⟨u6, rfl, ho6⟩, hb1⟩; have O6 := Lib.hid ho6; clear ho6; replace RS := Lib.hid (RS.out.up hb1); clear hb1 a0 a1 a2 a3 a4 c0 c1 c2 c3 c4 c5 z0 z1 z2 i0 i1 i2; obtain ⟨-, ⟨c0, c1, c2, c3, c4, c5⟩, hr3, ⟨a0, a1, a2, a3, a4⟩, -⟩ := RS.out; obtain ⟨⟨z0, z1, z2⟩, i0, i1, i2⟩ := hr3.cells; simp only at a0 a1 a2 a3 a4 c0 c1 c2 c3 c4; clear hr3)
      | (go_at_call 41; refine (sorted41 (goneR x1 x2 m) _ _ (RowS.of_own O6.out (by have := goneR_len x1 x2 m m.length; rw [List.take_length] at this; omega)) (by have := goneR_len x1 x2 m m.length; rw [List.take_length] at this; omega) (srtQ_gone HM.out x1 x2)).mono ?_; rintro e1 w7 ⟨⟨A7, c7', rfl, hr7, hA7⟩, hb1⟩; have hlo := RS.out.2.2.2.2.1; have R7 := Lib.hid hr7; have HA7 : Hid (∀ g o, A7 = some ⟨g, o, none⟩ → w.heap.size + 3 ≤ g ∧ g < w7.heap.size) := (fun g o h => by have := hA7 g o h; omega); clear hr7 hA7 hlo O6; replace RS := Lib.hid (RS.out.up hb1); clear hb1 a0 a1 a2 a3 a4 c0 c1 c2 c3 c4 c5 z0 z1 z2 i0 i1 i2; obtain ⟨-, ⟨c0, c1, c2, c3, c4, c5⟩, hr3, ⟨a0, a1, a2, a3, a4⟩, -⟩ := RS.out; obtain ⟨⟨z0, z1, z2⟩, i0, i1, i2⟩ := hr3.cells; simp only at a0 a1 a2 a3 a4 c0 c1 c2 c3 c4; clear hr3))
    clear a0 a1 a2 a3 a4 c0 c1 c2 c3 c4 c5 z0 z1 z2 i0 i1 i2
    generalize hwN : World.alloc w7 _ = wn
    have RSN : Hid (RfS w wn ⟨f, t, s, e, p⟩ ⟨x1, x2, x3, x4, x5⟩ (.slice A2 m.length cap2) (w7.heap.size + 1) ((w7.heap.size, ⟨.slice A7 (srt (goneR x1 x2 m)).length c7', srt (goneR x1 x2 m), false⟩) :: [(pg, ⟨.slice A4 (srt l).length c4', srt l, true⟩), (pa, ⟨.slice A5 (srt m).length c5', srt m, false⟩), (pb, ⟨.slice A4 (srt l).length c4', srt l, false⟩)])) := by show RfS _ _ _ _ _ _ _; rw [← hwN]; exact RS.out.cons R7.out (Nat.le_refl _) HA7.out rfl
    obtain ⟨pn, hpn⟩ : ∃ p, w7.heap.size = p := ⟨_, rfl⟩
    rw [hpn] at RSN
    rw [hpn]
    clear hwN hpn RS
    have RS := RSN
    clear RSN
    clear R7 HA7
    obtain ⟨-, ⟨c0, c1, c2, c3, c4, c5⟩, hr3, ⟨a0, a1, a2, a3, a4⟩, -⟩ := RS.out
    obtain ⟨⟨z0, z1, z2⟩, i0, i1, i2⟩ := hr3.cells
    simp only at a0 a1 a2 a3 a4 c0 c1 c2 c3 c4
    clear hr3
    go_upto_region 10 with (go_at_call 43; (with_reducible refine (H43'.out _ (RfS.below RS.out)).mono ?_); rintro e1 w8 ⟨rfl, hb1⟩; replace RS := Lib.hid (RS.out.up hb1); clear hb1 a0 a1 a2 a3 a4 c0 c1 c2 c3 c4 c5 z0 z1 z2 i0 i1 i2; obtain ⟨-, ⟨c0, c1, c2, c3, c4, c5⟩, hr3, ⟨a0, a1, a2, a3, a4⟩, -⟩ := RS.out; obtain ⟨⟨z0, z1, z2⟩, i0, i1, i2⟩ := hr3.cells; simp only at a0 a1 a2 a3 a4 c0 c1 c2 c3 c4; clear hr3)
    generalize hwr : World.alloc w8 _ = wr
    obtain ⟨k, hk⟩ : ∃ k, juN ⟨f, t, s, e, p⟩ n ⟨x1, x2, x3, x4, x5⟩ l m = k := ⟨_, rfl⟩
    rw [hk] at hwr
    rw [hk]
    have RR : Hid (RfR w wr ⟨f, t, s, e, p⟩ ⟨x1, x2, x3, x4, x5⟩ (.slice A2 m.length cap2) w8.heap.size k (-1) [(pn, ⟨.slice A7 (srt (goneR x1 x2 m)).length c7', srt (goneR x1 x2 m), false⟩), (pg, ⟨.slice A4 (srt l).length c4', srt l, true⟩), (pa, ⟨.slice A5 (srt m).length c5', srt m, false⟩), (pb, ⟨.slice A4 (srt l).length c4', srt l, false⟩)]) := by show RfR _ _ _ _ _ _ _ _ _; rw [← hwr]; exact RfR.new RS.out _ _
    have HPR : Hid (w8.heap.size < wr.heap.size) := by show _ < _; rw [← hwr]; simp
    obtain ⟨pr, hpr⟩ : ∃ p, w8.heap.size = p := ⟨_, rfl⟩
    rw [hpr] at RR HPR
    rw [hpr]
    have HK := Lib.hid hk
    clear a0 a1 a2 a3 a4 c0 c1 c2 c3 c4 c5 z0 z1 z2 i0 i1 i2 hwr hpr RS hk H41l H41m H42 H43' H14 H20 H37
    have CEL : Hid (∀ W ch, RfR w W ⟨f, t, s, e, p⟩ ⟨x1, x2, x3, x4, x5⟩ (.slice A2 m.length cap2) pr k ch [(pn, ⟨.slice A7 (srt (goneR x1 x2 m)).length c7', srt (goneR x1 x2 m), false⟩), (pg, ⟨.slice A4 (srt l).length c4', srt l, true⟩), (pa, ⟨.slice A5 (srt m).length c5', srt m, false⟩), (pb, ⟨.slice A4 (srt l).length c4', srt l, false⟩)] → OcAt W pb 0 ⟨.slice A4 (srt l).length c4', srt l, false⟩ ∧ OcAt W pa 0 ⟨.slice A5 (srt m).length c5', srt m, false⟩ ∧ OcAt W pg 0 ⟨.slice A4 (srt l).length c4', srt l, true⟩ ∧ OcAt W pn 0 ⟨.slice A7 (srt (goneR x1 x2 m)).length c7', srt (goneR x1 x2 m), false⟩) := by
      rintro W ch ⟨hi, h, -⟩
      exact ⟨(h.2.2.2.2.2 (pb, _) (by simp)).1, (h.2.2.2.2.2 (pa, _) (by simp)).1, (h.2.2.2.2.2 (pg, _) (by simp)).1, (h.2.2.2.2.2 (pn, _) (by simp)).1⟩
    have R3P : Hid (∀ W ch, RfR w W ⟨f, t, s, e, p⟩ ⟨x1, x2, x3, x4, x5⟩ (.slice A2 m.length cap2) pr k ch [(pn, ⟨.slice A7 (srt (goneR x1 x2 m)).length c7', srt (goneR x1 x2 m), false⟩), (pg, ⟨.slice A4 (srt l).length c4', srt l, true⟩), (pa, ⟨.slice A5 (srt m).length c5', srt m, false⟩), (pb, ⟨.slice A4 (srt l).length c4', srt l, false⟩)] → R3 W pr k ch (.slice none 0 0)) := by
      rintro W ch ⟨hi, -, -, h⟩
      exact h
    obtain ⟨⟨b0, b1⟩, ⟨d0, d1⟩, ⟨g0, g1⟩, ⟨n0, n1⟩⟩ := CEL.out _ _ RR.out
    simp only [Nat.zero_add] at b0 b1 d0 d1 g0 g1 n0 n1
    obtain ⟨⟨r0, r1, r2⟩, f0, f1, f2⟩ := (R3P.out _ _ RR.out).cells
    obtain ⟨hi, hRS, -, -⟩ := RR.out
    obtain ⟨-, ⟨t0, -⟩, -⟩ := hRS
    simp only at t0
    by_cases e0 : k = 0
    · subst e0
      have hal : Below wr.heap.size wr (wr.alloc (.cells #[.slice A5 (srt m).length c5', .bool false] 46)) := (Below.refl _ _).alloc (Nat.le_refl _) _
      obtain ⟨⟨v0, v1, v2⟩, y0, y1, y2⟩ := (R3P.out _ _ (RR.out.up hal)).cells
      have HAL := Lib.hid hal
      clear hal
      go_upto_region 25 with fail
      have hal := HAL.out
      clear v0 v1 v2 y0 y1 y2 b0 b1 d0 d1 g0 g1 n0 n1 r0 r1 r2 f0 f1 f2 t0
      have hro : RowO (wr.alloc (.cells #[.slice A5 (srt m).length c5', .bool false] 46)) (.slice (some ⟨wr.heap.size, 0, none⟩) 1 1) [⟨.slice A5 (srt m).length c5', srt m, false⟩] := RowO.new wr [⟨.slice A5 (srt m).length c5', srt m, false⟩] _ rfl (by simp)
      obtain ⟨XR, XZ, XW⟩ := rf_end (P := judP 0 ⟨x1, x2, x3, x4, x5⟩ l m) (D := [⟨.slice A5 (srt m).length c5', srt m, false⟩]) (RR.out.up hal) (by intro p hp; rw [List.mem_singleton.1 hp]; exact ⟨(pa, _), by simp, rfl⟩) hro (by intro b o h; injection h with h; injection h with h; have := HPR.out; omega) rfl (by unfold judP; simp [oP])
      generalize hws : World.setCell (World.alloc wr _) _ _ = ws
      rw [hws] at XR XZ XW
      have XRH := Lib.hid XR
      have XZH := Lib.hid XZ
      have XWH := Lib.hid XW
      clear hws XR XZ XW
      obtain ⟨⟨r0, r1, r2⟩, f0, f1, f2⟩ := XRH.out.cells
      obtain ⟨⟨z0, z1, z2⟩, i0, i1, i2⟩ := XZH.out.cells
      go_wp2_with fail
      refine bodyPost_ret (results_r3e (r := 0) (ch := (-1)) (v := .slice (some ⟨wr.heap.size, 0, none⟩) 1 1) rfl _ _ rfl (set3 XZH.out 0 (-1) (.slice (some ⟨wr.heap.size, 0, none⟩) 1 1)) ⟨_, _, _, rfl⟩) rfl ?_
      exact HFIN.out 0 _ _ _ _ HE.out (fun h => absurd rfl h) (fun _ => ⟨by rw [HK.out]; try rfl, by rw [HK.out]; simp [judC], by rw [HK.out]; exact XWH.out.1⟩) XWH.out.2
    by_cases e4 : k = 4
    · subst e4
      have hal : Below wr.heap.size wr (wr.alloc (.cells #[.slice A4 (srt l).length c4', .bool true] 46)) := (Below.refl _ _).alloc (Nat.le_refl _) _
      obtain ⟨⟨v0, v1, v2⟩, y0, y1, y2⟩ := (R3P.out _ _ (RR.out.up hal)).cells
      have HAL := Lib.hid hal
      clear hal
      go_upto_region 25 with fail
      have hal := HAL.out
      clear v0 v1 v2 y0 y1 y2 b0 b1 d0 d1 g0 g1 n0 n1 r0 r1 r2 f0 f1 f2 t0
      have hro : RowO (wr.alloc (.cells #[.slice A4 (srt l).length c4', .bool true] 46)) (.slice (some ⟨wr.heap.size, 0, none⟩) 1 1) [⟨.slice A4 (srt l).length c4', srt l, true⟩] := RowO.new wr [⟨.slice A4 (srt l).length c4', srt l, true⟩] _ rfl (by simp)
      obtain ⟨XR, XZ, XW⟩ := rf_end (P := judP 4 ⟨x1, x2, x3, x4, x5⟩ l m) (D := [⟨.slice A4 (srt l).length c4', srt l, true⟩]) (RR.out.up hal) (by intro p hp; rw [List.mem_singleton.1 hp]; exact ⟨(pg, _), by simp, rfl⟩) hro (by intro b o h; injection h with h; injection h with h; have := HPR.out; omega) rfl (by unfold judP; simp [oP])
      generalize hws : World.setCell (World.alloc wr _) _ _ = ws
      rw [hws] at XR XZ XW
      have XRH := Lib.hid XR
      have XZH := Lib.hid XZ
      have XWH := Lib.hid XW
      clear hws XR XZ XW
      obtain ⟨⟨r0, r1, r2⟩, f0, f1, f2⟩ := XRH.out.cells
      obtain ⟨⟨z0, z1, z2⟩, i0, i1, i2⟩ := XZH.out.cells
      go_wp2_with fail
      refine bodyPost_ret (results_r3e (r := 4) (ch := (-1)) (v := .slice (some ⟨wr.heap.size, 0, none⟩) 1 1) rfl _ _ rfl (set3 XZH.out 4 (-1) (.slice (some ⟨wr.heap.size, 0, none⟩) 1 1)) ⟨_, _, _, rfl⟩) rfl ?_
      exact HFIN.out 0 _ _ _ _ HE.out (fun h => absurd rfl h) (fun _ => ⟨by rw [HK.out]; try rfl, by rw [HK.out]; simp [judC], by rw [HK.out]; exact XWH.out.1⟩) XWH.out.2
    by_cases e5 : k = 5
    · subst e5
      go_upto_region 18 with fail
      clear b0 b1 d0 d1 g0 g1 n0 n1 r0 r1 r2 f0 f1 f2 t0
      generalize hwy : World.setCell wr _ _ = wy
      have RY : Hid (RfR w wy ⟨f, t, s, e, p⟩ ⟨x1, x2, x3, x4, x5⟩ (.slice A2 m.length cap2) pr 5 (1 - x1) [(pn, ⟨.slice A7 (srt (goneR x1 x2 m)).length c7', srt (goneR x1 x2 m), false⟩), (pg, ⟨.slice A4 (srt l).length c4', srt l, true⟩), (pa, ⟨.slice A5 (srt m).length c5', srt m, false⟩), (pb, ⟨.slice A4 (srt l).length c4', srt l, false⟩)]) := by show RfR _ _ _ _ _ _ _ _ _; rw [← hwy]; exact RR.out.set1 (1 - x1)
      have HPY : Hid (pr < wy.heap.size) := by show _ < _; rw [← hwy]; simpa using HPR.out
      clear hwy RR HPR
      obtain ⟨⟨b0, b1⟩, ⟨d0, d1⟩, ⟨g0, g1⟩, ⟨n0, n1⟩⟩ := CEL.out _ _ RY.out
      simp only [Nat.zero_add] at b0 b1 d0 d1 g0 g1 n0 n1
      have D44 : Hid (Calls Try.prog 44 #[.slice (some ⟨wy.heap.size, 0, none⟩) 3 3] (wy.alloc (.cells #[.slice A4 (srt l).length c4', .bool false, .slice A5 (srt m).length c5', .bool false, .slice A7 (srt (goneR x1 x2 m)).length c7', .bool false] 46)) fun e' w' => ∃ A n cp, e' = .returned (.slice A n cp) ∧ RfR w w' ⟨f, t, s, e, p⟩ ⟨x1, x2, x3, x4, x5⟩ (.slice A2 m.length cap2) pr 5 (1 - x1) [(pn, ⟨.slice A7 (srt (goneR x1 x2 m)).length c7', srt (goneR x1 x2 m), false⟩), (pg, ⟨.slice A4 (srt l).length c4', srt l, true⟩), (pa, ⟨.slice A5 (srt m).length c5', srt m, false⟩), (pb, ⟨.slice A4 (srt l).length c4', srt l, false⟩)] ∧ RowO w' (.slice A n cp) (dd [⟨.slice A4 (srt l).length c4', srt l, false⟩, ⟨.slice A5 (srt m).length c5', srt m, false⟩, ⟨.slice A7 (srt (goneR x1 x2 m)).length c7', srt (goneR x1 x2 m), false⟩]) ∧ (∀ b o, A = some ⟨b, o, none⟩ → pr + 1 ≤ b) ∧ n = (dd [⟨.slice A4 (srt l).length c4', srt l, false⟩, ⟨.slice A5 (srt m).length c5', srt m, false⟩, ⟨.slice A7 (srt (goneR x1 x2 m)).length c7', srt (goneR x1 x2 m), false⟩]).length) := dist44J w wy _ _ _ pr 5 (1 - x1) _ [⟨.slice A4 (srt l).length c4', srt l, false⟩, ⟨.slice A5 (srt m).length c5', srt m, false⟩, ⟨.slice A7 (srt (goneR x1 x2 m)).length c7', srt (goneR x1 x2 m), false⟩] _ rfl RY.out (by intro p hp; simp only [List.mem_cons, List.not_mem_nil, or_false] at hp; rcases hp with rfl | rfl | rfl; exact ⟨(pb, _), by simp, rfl⟩; exact ⟨(pa, _), by simp, rfl⟩; exact ⟨(pn, _), by simp, rfl⟩) (by simp) HPY.out
      go_upto_region 25 with (go_at_call 44; (with_reducible refine D44.out.mono ?_); rintro e1 w9 ⟨A9, n9, c9, rfl, hRR, hro, hA9, hn9⟩; have RZ := Lib.hid hRR; have RO := Lib.hid hro; have HA9 := Lib.hid hA9; have HN9 := Lib.hid hn9; clear hRR hro hA9 hn9 D44 b0 b1 d0 d1 g0 g1 n0 n1 RY; obtain ⟨⟨r0, r1, r2⟩, f0, f1, f2⟩ := (R3P.out _ _ RZ.out).cells)
      clear r0 r1 r2 f0 f1 f2
      obtain ⟨XR, XZ, XW⟩ := rf_end (P := judP 5 ⟨x1, x2, x3, x4, x5⟩ l m) (D := dd [⟨.slice A4 (srt l).length c4', srt l, false⟩, ⟨.slice A5 (srt m).length c5', srt m, false⟩, ⟨.slice A7 (srt (goneR x1 x2 m)).length c7', srt (goneR x1 x2 m), false⟩]) RZ.out (by intro p hp; have hp := dd_mem _ p hp; simp only [List.mem_cons, List.not_mem_nil, or_false] at hp; rcases hp with rfl | rfl | rfl; exact ⟨(pb, _), by simp, rfl⟩; exact ⟨(pa, _), by simp, rfl⟩; exact ⟨(pn, _), by simp, rfl⟩) RO.out HA9.out HN9.out (by rw [dd_map]; unfold judP; simp [oP, gone, goneR])
      generalize hws : World.setCell w9 _ _ = ws
      rw [hws] at XR XZ XW
      have XRH := Lib.hid XR
      have XZH := Lib.hid XZ
      have XWH := Lib.hid XW
      clear hws XR XZ XW
      obtain ⟨⟨r0, r1, r2⟩, f0, f1, f2⟩ := XRH.out.cells
      obtain ⟨⟨z0, z1, z2⟩, i0, i1, i2⟩ := XZH.out.cells
      go_wp2_with fail
      refine bodyPost_ret (results_r3e (r := 5) (ch := (1 - x1)) (v := .slice A9 n9 c9) rfl _ _ rfl (set3 XZH.out 5 (1 - x1) (.slice A9 n9 c9)) ⟨_, _, _, rfl⟩) rfl ?_
      exact HFIN.out 0 _ _ _ _ HE.out (fun h => absurd rfl h) (fun _ => ⟨by rw [HK.out]; try rfl, by rw [HK.out]; simp [judC], by rw [HK.out]; exact XWH.out.1⟩) XWH.out.2
    by_cases e6 : k = 6
    · subst e6
      go_upto_region 21 with fail
      clear b0 b1 d0 d1 g0 g1 n0 n1 r0 r1 r2 f0 f1 f2 t0
      generalize hwy : World.setCell wr _ _ = wy
      have RY : Hid (RfR w wy ⟨f, t, s, e, p⟩ ⟨x1, x2, x3, x4, x5⟩ (.slice A2 m.length cap2) pr 6 x1 [(pn, ⟨.slice A7 (srt (goneR x1 x2 m)).length c7', srt (goneR x1 x2 m), false⟩), (pg, ⟨.slice A4 (srt l).length c4', srt l, true⟩), (pa, ⟨.slice A5 (srt m).length c5', srt m, false⟩), (pb, ⟨.slice A4 (srt l).length c4', srt l, false⟩)]) := by show RfR _ _ _ _ _ _ _ _ _; rw [← hwy]; exact RR.out.set1 x1
      have HPY : Hid (pr < wy.heap.size) := by show _ < _; rw [← hwy]; simpa using HPR.out
      clear hwy RR HPR
      obtain ⟨⟨b0, b1⟩, ⟨d0, d1⟩, ⟨g0, g1⟩, ⟨n0, n1⟩⟩ := CEL.out _ _ RY.out
      simp only [Nat.zero_add] at b0 b1 d0 d1 g0 g1 n0 n1
      have D44 : Hid (Calls Try.prog 44 #[.slice (some ⟨wy.heap.size, 0, none⟩) 2 2] (wy.alloc (.cells #[.slice A5 (srt m).length c5', .bool false, .slice A4 (srt l).length c4', .bool true] 46)) fun e' w' => ∃ A n cp, e' = .returned (.slice A n cp) ∧ RfR w w' ⟨f, t, s, e, p⟩ ⟨x1, x2, x3, x4, x5⟩ (.slice A2 m.length cap2) pr 6 x1 [(pn, ⟨.slice A7 (srt (goneR x1 x2 m)).length c7', srt (goneR x1 x2 m), false⟩), (pg, ⟨.slice A4 (srt l).length c4', srt l, true⟩), (pa, ⟨.slice A5 (srt m).length c5', srt m, false⟩), (pb, ⟨.slice A4 (srt l).length c4', srt l, false⟩)] ∧ RowO w' (.slice A n cp) (dd [⟨.slice A5 (srt m).length c5', srt m, false⟩, ⟨.slice A4 (srt l).length c4', srt l, true⟩]) ∧ (∀ b o, A = some ⟨b, o, none⟩ → pr + 1 ≤ b) ∧ n = (dd [⟨.slice A5 (srt m).length c5', srt m, false⟩, ⟨.slice A4 (srt l).length c4', srt l, true⟩]).length) := dist44J w wy _ _ _ pr 6 x1 _ [⟨.slice A5 (srt m).length c5', srt m, false⟩, ⟨.slice A4 (srt l).length c4', srt l, true⟩] _ rfl RY.out (by intro p hp; simp only [List.mem_cons, List.not_mem_nil, or_false] at hp; rcases hp with rfl | rfl; exact ⟨(pa, _), by simp, rfl⟩; exact ⟨(pg, _), by simp, rfl⟩) (by simp) HPY.out
      go_upto_region 25 with (go_at_call 44; (with_reducible refine D44.out.mono ?_); rintro e1 w9 ⟨A9, n9, c9, rfl, hRR, hro, hA9, hn9⟩; have RZ := Lib.hid hRR; have RO := Lib.hid hro; have HA9 := Lib.hid hA9; have HN9 := Lib.hid hn9; clear hRR hro hA9 hn9 D44 b0 b1 d0 d1 g0 g1 n0 n1 RY; obtain ⟨⟨r0, r1, r2⟩, f0, f1, f2⟩ := (R3P.out _ _ RZ.out).cells)
      clear r0 r1 r2 f0 f1 f2
      obtain ⟨XR, XZ, XW⟩ := rf_end (P := judP 6 ⟨x1, x2, x3, x4, x5⟩ l m) (D := dd [⟨.slice A5 (srt m).length c5', srt m, false⟩, ⟨.slice A4 (srt l).length c4', srt l, true⟩]) RZ.out (by intro p hp; have hp := dd_mem _ p hp; simp only [List.mem_cons, List.not_mem_nil, or_false] at hp; rcases hp with rfl | rfl; exact ⟨(pa, _), by simp, rfl⟩; exact ⟨(pg, _), by simp, rfl⟩) RO.out HA9.out HN9.out (by rw [dd_map]; unfold judP; simp [oP])
      generalize hws : World.setCell w9 _ _ = ws
      rw [hws] at XR XZ XW
      have XRH := Lib.hid XR
      have XZH := Lib.hid XZ
      have XWH := Lib.hid XW
      clear hws XR XZ XW
      obtain ⟨⟨r0, r1, r2⟩, f0, f1, f2⟩ := XRH.out.cells
      obtain ⟨⟨z0, z1, z2⟩, i0, i1, i2⟩ := XZH.out.cells
      go_wp2_with fail
      refine bodyPost_ret (results_r3e (r := 6) (ch := x1) (v := .slice A9 n9 c9) rfl _ _ rfl (set3 XZH.out 6 x1 (.slice A9 n9 c9)) ⟨_, _, _, rfl⟩) rfl ?_
      exact HFIN.out 0 _ _ _ _ HE.out (fun h => absurd rfl h) (fun _ => ⟨by rw [HK.out]; try rfl, by rw [HK.out]; simp [judC], by rw [HK.out]; exact XWH.out.1⟩) XWH.out.2
    by_cases e9 : k = 9
    · subst e9
      go_upto_region 24 with fail
      clear b0 b1 d0 d1 g0 g1 n0 n1 r0 r1 r2 f0 f1 f2 t0
      generalize hwy : World.setCell wr _ _ = wy
      have RY : Hid (RfR w wy ⟨f, t, s, e, p⟩ ⟨x1, x2, x3, x4, x5⟩ (.slice A2 m.length cap2) pr 9 (1 - x1) [(pn, ⟨.slice A7 (srt (goneR x1 x2 m)).length c7', srt (goneR x1 x2 m), false⟩), (pg, ⟨.slice A4 (srt l).length c4', srt l, true⟩), (pa, ⟨.slice A5 (srt m).length c5', srt m, false⟩), (pb, ⟨.slice A4 (srt l).length c4', srt l, false⟩)]) := by show RfR _ _ _ _ _ _ _ _ _; rw [← hwy]; exact RR.out.set1 (1 - x1)
      have HPY : Hid (pr < wy.heap.size) := by show _ < _; rw [← hwy]; simpa using HPR.out
      clear hwy RR HPR
      obtain ⟨⟨b0, b1⟩, ⟨d0, d1⟩, ⟨g0, g1⟩, ⟨n0, n1⟩⟩ := CEL.out _ _ RY.out
      simp only [Nat.zero_add] at b0 b1 d0 d1 g0 g1 n0 n1
      have D44 : Hid (Calls Try.prog 44 #[.slice (some ⟨wy.heap.size, 0, none⟩) 2 2] (wy.alloc (.cells #[.slice A5 (srt m).length c5', .bool false, .slice A4 (srt l).length c4', .bool false] 46)) fun e' w' => ∃ A n cp, e' = .returned (.slice A n cp) ∧ RfR w w' ⟨f, t, s, e, p⟩ ⟨x1, x2, x3, x4, x5⟩ (.slice A2 m.length cap2) pr 9 (1 - x1) [(pn, ⟨.slice A7 (srt (goneR x1 x2 m)).length c7', srt (goneR x1 x2 m), false⟩), (pg, ⟨.slice A4 (srt l).length c4', srt l, true⟩), (pa, ⟨.slice A5 (srt m).length c5', srt m, false⟩), (pb, ⟨.slice A4 (srt l).length c4', srt l, false⟩)] ∧ RowO w' (.slice A n cp) (dd [⟨.slice A5 (srt m).length c5', srt m, false⟩, ⟨.slice A4 (srt l).length c4', srt l, false⟩]) ∧ (∀ b o, A = some ⟨b, o, none⟩ → pr + 1 ≤ b) ∧ n = (dd [⟨.slice A5 (srt m).length c5', srt m, false⟩, ⟨.slice A4 (srt l).length c4', srt l, false⟩]).length) := dist44J w wy _ _ _ pr 9 (1 - x1) _ [⟨.slice A5 (srt m).length c5', srt m, false⟩, ⟨.slice A4 (srt l).length c4', srt l, false⟩] _ rfl RY.out (by intro p hp; simp only [List.mem_cons, List.not_mem_nil, or_false] at hp; rcases hp with rfl | rfl; exact ⟨(pa, _), by simp, rfl⟩; exact ⟨(pb, _), by simp, rfl⟩) (by simp) HPY.out
      go_upto_region 25 with (go_at_call 44; (with_reducible refine D44.out.mono ?_); rintro e1 w9 ⟨A9, n9, c9, rfl, hRR, hro, hA9, hn9⟩; have RZ := Lib.hid hRR; have RO := Lib.hid hro; have HA9 := Lib.hid hA9; have HN9 := Lib.hid hn9; clear hRR hro hA9 hn9 D44 b0 b1 d0 d1 g0 g1 n0 n1 RY; obtain ⟨⟨r0, r1, r2⟩, f0, f1, f2⟩ := (R3P.out _ _ RZ.out).cells)
      clear r0 r1 r2 f0 f1 f2
      obtain ⟨XR, XZ, XW⟩ := rf_end (P := judP 9 ⟨x1, x2, x3, x4, x5⟩ l m) (D := dd [⟨.slice A5 (srt m).length c5', srt m, false⟩, ⟨.slice A4 (srt l).length c4', srt l, false⟩]) RZ.out (by intro p hp; have hp := dd_mem _ p hp; simp only [List.mem_cons, List.not_mem_nil, or_false] at hp; rcases hp with rfl | rfl; exact ⟨(pa, _), by simp, rfl⟩; exact ⟨(pb, _), by simp, rfl⟩) RO.out HA9.out HN9.out (by rw [dd_map]; unfold judP; simp [oP])
      generalize hws : World.setCell w9 _ _ = ws
      rw [hws] at XR XZ XW
      have XRH := Lib.hid XR
      have XZH := Lib.hid XZ
      have XWH := Lib.hid XW
      clear hws XR XZ XW
      obtain ⟨⟨r0, r1, r2⟩, f0, f1, f2⟩ := XRH.out.cells
      obtain ⟨⟨z0, z1, z2⟩, i0, i1, i2⟩ := XZH.out.cells
      go_wp2_with fail
      refine bodyPost_ret (results_r3e (r := 9) (ch := (1 - x1)) (v := .slice A9 n9 c9) rfl _ _ rfl (set3 XZH.out 9 (1 - x1) (.slice A9 n9 c9)) ⟨_, _, _, rfl⟩) rfl ?_
      exact HFIN.out 0 _ _ _ _ HE.out (fun h => absurd rfl h) (fun _ => ⟨by rw [HK.out]; try rfl, by rw [HK.out]; simp [judC], by rw [HK.out]; exact XWH.out.1⟩) XWH.out.2
    have t00 : ((k : Int) == 0) = false := by rw [beq_eq_false_iff_ne]; omega
    have t04 : ((k : Int) == 4) = false := by rw [beq_eq_false_iff_ne]; omega
    have t05 : ((k : Int) == 5) = false := by rw [beq_eq_false_iff_ne]; omega
    have t06 : ((k : Int) == 6) = false := by rw [beq_eq_false_iff_ne]; omega
    have t09 : ((k : Int) == 9) = false := by rw [beq_eq_false_iff_ne]; omega
    have hal : Below wr.heap.size wr (wr.alloc (.cells #[.slice A4 (srt l).length c4', .bool false] 46)) := (Below.refl _ _).alloc (Nat.le_refl _) _
    obtain ⟨⟨v0, v1, v2⟩, y0, y1, y2⟩ := (R3P.out _ _ (RR.out.up hal)).cells
    have HAL := Lib.hid hal
    clear hal
    go_upto_region 25 with fail
    have hal := HAL.out
    clear v0 v1 v2 y0 y1 y2 b0 b1 d0 d1 g0 g1 n0 n1 r0 r1 r2 f0 f1 f2 t0
    have hro : RowO (wr.alloc (.cells #[.slice A4 (srt l).length c4', .bool false] 46)) (.slice (some ⟨wr.heap.size, 0, none⟩) 1 1) [⟨.slice A4 (srt l).length c4', srt l, false⟩] := RowO.new wr [⟨.slice A4 (srt l).length c4', srt l, false⟩] _ rfl (by simp)
    obtain ⟨XR, XZ, XW⟩ := rf_end (P := judP k ⟨x1, x2, x3, x4, x5⟩ l m) (D := [⟨.slice A4 (srt l).length c4', srt l, false⟩]) (RR.out.up hal) (by intro p hp; rw [List.mem_singleton.1 hp]; exact ⟨(pb, _), by simp, rfl⟩) hro (by intro b o h; injection h with h; injection h with h; have := HPR.out; omega) rfl (by unfold judP; rw [if_neg e0, if_neg e4, if_neg e5, if_neg e6, if_neg e9]; simp [oP])
    generalize hws : World.setCell (World.alloc wr _) _ _ = ws
    rw [hws] at XR XZ XW
    have XRH := Lib.hid XR
    have XZH := Lib.hid XZ
    have XWH := Lib.hid XW
    clear hws XR XZ XW
    obtain ⟨⟨r0, r1, r2⟩, f0, f1, f2⟩ := XRH.out.cells
    obtain ⟨⟨z0, z1, z2⟩, i0, i1, i2⟩ := XZH.out.cells
    go_wp2_with fail
    refine bodyPost_ret (results_r3e (r := k) (ch := (-1)) (v := .slice (some ⟨wr.heap.size, 0, none⟩) 1 1) rfl _ _ rfl (set3 XZH.out k (-1) (.slice (some ⟨wr.heap.size, 0, none⟩) 1 1)) ⟨_, _, _, rfl⟩) rfl ?_
    exact HFIN.out 0 _ _ _ _ HE.out (fun h => absurd rfl h) (fun _ => ⟨by rw [HK.out]; try rfl, by rw [HK.out]; simp [judC, e5, e6, e9], by rw [HK.out]; exact XWH.out.1⟩) XWH.out.2
  all_goals
    go_wp2_with (first
      | (go_at_call 14; (with_reducible refine (H14.out _).mono ?_); rintro e1 w1 ⟨rfl, hb1⟩; replace RS := Lib.hid (RS.out.up hb1); clear hb1 a0 a1 a2 a3 a4 c0 c1 c2 c3 c4 c5 z0 z1 z2 i0 i1 i2; obtain ⟨-, ⟨c0, c1, c2, c3, c4, c5⟩, hr3, ⟨a0, a1, a2, a3, a4⟩, -⟩ := RS.out; obtain ⟨⟨z0, z1, z2⟩, i0, i1, i2⟩ := hr3.cells; simp only at a0 a1 a2 a3 a4 c0 c1 c2 c3 c4; clear hr3)
      | (go_at_call 20; (with_reducible refine (H20.out _ (RfS.below RS.out)).mono ?_); rintro e1 w2 ⟨rfl, hb1⟩; replace RS := Lib.hid (RS.out.up hb1); clear hb1 a0 a1 a2 a3 a4 c0 c1 c2 c3 c4 c5 z0 z1 z2 i0 i1 i2; obtain ⟨-, ⟨c0, c1, c2, c3, c4, c5⟩, hr3, ⟨a0, a1, a2, a3, a4⟩, -⟩ := RS.out; obtain ⟨⟨z0, z1, z2⟩, i0, i1, i2⟩ := hr3.cells; simp only at a0 a1 a2 a3 a4 c0 c1 c2 c3 c4; clear hr3)
      | (go_at_call 37; (with_reducible refine (H37.out _).mono ?_); rintro e1 w3 ⟨rfl, rfl⟩))
    refine bodyPost_ret (results_r3e (r := 0) (ch := 0) (v := .slice none 0 0) rfl _ _ rfl (set3 RS.out.2.2.1 _ _ _) ⟨_, _, _, rfl⟩) rfl ?_
    have hB := RS.out.1
    exact HFIN.out _ _ _ _ _ HE.out (fun _ => ⟨rfl, rfl, RulW.nil _⟩) (fun h => absurd h (by decide)) (((hB.setCell (p := ⟨w.heap.size + 1 + 1, 0, none⟩) (by simp; omega) _).setCell (p := ⟨w.heap.size + 1 + 1, 1, none⟩) (by simp; omega) _).setCell (p := ⟨w.heap.size + 1 + 1, 2, none⟩) (by simp; omega) _)
end Go.Proofs.Ytomcpgdpjpjioaa
