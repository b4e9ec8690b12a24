/- Contract: judge, as far as its switch. -/
import Derived.Test.YtomcpgdpjpjioaaJq
import Derived.Test.YtomcpgdpjpjioaaCu
import Derived.Test.YtomcpgdpjpjioaaDl
import Derived.Deep.Cut
import Derived.Deep.CutBlock
import Derived.Laws.EntriesVeiled
namespace Go.Proofs.Ytomcpgdpjpjioaa
open Go.RowKit Go.Proofs Go.Shelf
attribute [local go_sem] Oper.semAt_some

/-- Where judge is in its loop. -/
def LoS (w W : World) (pr pe bl b : Nat) (x : Th) (u : Value) (r m s : Bool) : Prop := JdS w W pr x u 0 ∧ Ev9 W pe x u r m s ∧ LinAt W bl b
theorem LoS.up {w W W' : World} {pr pe bl b : Nat} {x : Th} {u : Value} {r m s : Bool} (h : LoS w W pr pe bl b x u r m s) (hb : Below W.heap.size W W') : LoS w W' pr pe bl b x u r m s :=
  ⟨h.1.up hb, h.2.1.kept (grown_of hb none) (by simp), h.2.2.up hb⟩

set_option maxRecDepth 100000 in
set_option maxHeartbeats 4000000 in
theorem judge40 (c : Cd) (n team : Int) (x : Th) (l m : List St) (v u : Value) (w : World) (hv : RowS w v l) (hu : RowS w u m) (hl : chkB l = true) (hm : chkB m = true) (ht : 0 ≤ x.team ∧ x.team ≤ 1) :
    Calls Try.prog 40 #[Tnv c n team, v, Thv x u] w (JudC (ruleN x (remB c n team m l) (movB c n team m l) (decide (n < c.s))) x l m w) := by
  have hL16 := (chk_facts hl).1
  have hM16 := (chk_facts hm).1
  have hok : ∀ s ∈ l, W64 s.t ∧ W64 s.n := fun s hs => by obtain ⟨j, hj, rfl⟩ := List.getElem_of_mem hs; exact ok64 ((chk_facts hl).2 j hj)
  have hmk : ∀ s ∈ m, W64 s.t ∧ W64 s.n := fun s hs => by obtain ⟨j, hj, rfl⟩ := List.getElem_of_mem hs; exact ok64 ((chk_facts hm).2 j hj)
  have HV := Lib.hid hv
  have HU := Lib.hid hu
  have HL := Lib.hid hl
  have HM := Lib.hid hm
  have H63 : Hid (∀ W, Below w.heap.size w W → Calls Try.prog 63 #[Tnv c n team, v, Thv x u] W (Back (Evv x u (remB c n team m l) (movB c n team m l) (decide (n < c.s))) W)) := fun W hW => seen_any c n team x l m v u W (hv.up hW) (hu.up hW) (by omega) hok hmk
  obtain ⟨A, cap, rfl⟩ := hv.form
  obtain ⟨A2, cap2, rfl⟩ := hu.form
  obtain ⟨r, hr⟩ : ∃ r, remB c n team m l = r := ⟨_, rfl⟩
  obtain ⟨mv, hmv⟩ : ∃ r, movB c n team m l = r := ⟨_, rfl⟩
  obtain ⟨sf, hsf⟩ : ∃ r, decide (n < c.s) = r := ⟨_, rfl⟩
  rw [hr, hmv, hsf] at H63
  rw [hr, hmv, hsf]
  clear hv hu hl hm hok hmk hr hmv hsf
  have K0 : Hid (∀ W, W = (((w.alloc (Tno c n team)).alloc (Tho x (.slice A2 m.length cap2))).alloc (.cells #[.int .i64 0, .int .i64 0, .slice none 0 0] 40)) → Below w.heap.size w W ∧ Th6 W (w.heap.size + 1) x (.slice A2 m.length cap2) ∧ R3 W (w.heap.size + 1 + 1) 0 0 (.slice none 0 0) ∧ Tn7 W w.heap.size c n team ∧ W.heap.size = w.heap.size + 3) := by
    rintro W rfl
    have b0 : Below w.heap.size w (w.alloc (Tno c n team)) := (Below.refl _ _).alloc (Nat.le_refl _) _
    have k0 := Tn7.new w c n team
    have k1 := Th6.new (w.alloc (Tno c n team)) x (.slice A2 m.length cap2)
    have k2 := R3.new ((w.alloc (Tno c n team)).alloc (Tho x (.slice A2 m.length cap2))) 0 0 (.slice none 0 0)
    simp only [World.size_alloc] at k1 k2
    exact ⟨(b0.alloc (by simp) _).alloc (by simp; omega) _, k1.kept (World.grownBy_alloc _ _ none) (by simp), k2, (k0.kept (World.grownBy_alloc _ _ none) (by simp)).kept (World.grownBy_alloc _ _ none) (by simp), by simp⟩
  obtain ⟨x1, x2, x3, x4, x5⟩ := x
  obtain ⟨f, t, s, e, p⟩ := c
  go_enter Try.func40, Try.ntmps40
  go_upto_region 1 with fail
  generalize hwx : World.alloc (World.alloc (World.alloc w _) _) _ = wx
  obtain ⟨k1, k2, k3, k4, k5⟩ := K0.out wx hwx.symm
  have KB := Lib.hid k1
  have K2 := Lib.hid k2
  have K3 := Lib.hid k3
  have K5 := Lib.hid k5
  clear hwx K0 k1 k3 k5
  obtain ⟨a0, a1, a2, a3, a4, a5, a6⟩ := k4
  obtain ⟨c0, c1, c2, c3, c4, c5⟩ := k2
  simp only at a0 a1 a2 a3 a4 c0 c1 c2 c3 c4
  go_step3
  go_upto_region 2 with (go_at_call 63; (with_reducible refine (H63.out _ KB.out).mono ?_); rintro e1 w1 ⟨rfl, hb1⟩; replace KB := Lib.hid (KB.out.trans (hb1.mono KB.out.size)); replace K2 := Lib.hid (K2.out.up hb1); replace K3 := Lib.hid (K3.out.up hb1); have KZ := Lib.hid hb1.size; clear hb1 H63 a0 a1 a2 a3 a4 a5 a6 c0 c1 c2 c3 c4 c5)
  generalize hwy : World.alloc w1 _ = wy
  have E9 : Hid (Ev9 wy w1.heap.size ⟨x1, x2, x3, x4, x5⟩ (.slice A2 m.length cap2) r mv sf) := by show Ev9 _ _ _ _ _ _ _; rw [← hwy]; exact Ev9.new w1 ⟨x1, x2, x3, x4, x5⟩ _ _ _ _
  have hby : Below w1.heap.size w1 wy := by rw [← hwy]; exact (Below.refl _ _).alloc (Nat.le_refl _) _
  replace KB := Lib.hid (KB.out.trans (hby.mono KB.out.size))
  replace K2 := Lib.hid (K2.out.up hby)
  replace K3 := Lib.hid (K3.out.up hby)
  have KY := Lib.hid hby.size
  clear hwy hby
  go_wp2_with fail
  go_step3
  go_upto_region 3 with fail
  generalize hwz : World.alloc wy _ = wz
  have hbz : Below wy.heap.size wy wz := by rw [← hwz]; exact (Below.refl _ _).alloc (Nat.le_refl _) _
  have hkr : R3 wz wy.heap.size 0 (-1) (.slice none 0 0) := by rw [← hwz]; exact R3.new wy 0 (-1) _
  have LO : Hid (∀ W bl b, Below wz.heap.size wz W → LinAt W bl b → LoS w W wy.heap.size w1.heap.size bl b ⟨x1, x2, x3, x4, x5⟩ (.slice A2 m.length cap2) r mv sf) := by
    intro W bl b hW hlin
    have hz5 := K5.out
    have hz6 := KZ.out
    have hz7 := KY.out
    refine ⟨⟨(KB.out.trans (hbz.mono KB.out.size)).trans (hW.mono ?_), (K2.out.up hbz).up hW, (K3.out.up hbz).up hW, hkr.up hW, by omega⟩, (E9.out.kept (grown_of hbz none) (by simp)).kept (grown_of hW none) (by simp), hlin⟩
    have := hbz.size
    omega
  obtain ⟨pr, hpr⟩ : ∃ p, wy.heap.size = p := ⟨_, rfl⟩
  obtain ⟨pe, hpe⟩ : ∃ p, w1.heap.size = p := ⟨_, rfl⟩
  rw [hpr, hpe] at LO
  rw [hpr, hpe]
  clear hwz hbz hkr E9 KB K2 K3 K5 KZ KY hpr hpe
  go_upto_block 0 with (go_at_call 64; refine (lines64 _).mono ?_; rintro e1 w2 ⟨⟨bl, b, rfl, hbl, hlin⟩, hb2⟩; have LS := Lib.hid (LO.out _ _ _ hb2 hlin); clear hbl hlin hb2 LO)
  go_cut [] from 10 (fun wc => ∃ k : Nat, k = ruleN ⟨x1, x2, x3, x4, x5⟩ r mv sf ∧ JdS w wc pr ⟨x1, x2, x3, x4, x5⟩ (.slice A2 m.length cap2) (k : Int))
  case first =>
    have AS : Hid (∀ W k, k < 9 → LinAt W bl b → Calls Try.prog (fnL k) (#[Evv ⟨x1, x2, x3, x4, x5⟩ (.slice A2 m.length cap2) r mv sf] ++ cpL b k) W (Back (.bool (apL ⟨x1, x2, x3, x4, x5⟩ r mv sf k)) W)) := fun W k hk h => asks _ _ _ _ _ W bl b k hk h ⟨_, _, _, rfl⟩
    have RN : Hid (∀ k, k < 9 → apL ⟨x1, x2, x3, x4, x5⟩ r mv sf k = true → (∀ j, j < k → apL ⟨x1, x2, x3, x4, x5⟩ r mv sf j = false) → k + 1 = ruleN ⟨x1, x2, x3, x4, x5⟩ r mv sf) := fun k hk h hn => (ruleN_at hk h hn).symm
    have RZ : Hid ((∀ j, j < 9 → apL ⟨x1, x2, x3, x4, x5⟩ r mv sf j = false) → 0 = ruleN ⟨x1, x2, x3, x4, x5⟩ r mv sf) := fun hn => (ruleN_no hn).symm
    go_wp2_with fail
    go_loopw [21] (fun iv wr => ∃ k : Nat, k ≤ 9 ∧ iv = .int .i64 k ∧ Hid (∀ j, j < k → apL ⟨x1, x2, x3, x4, x5⟩ r mv sf j = false) ∧ Hid (LoS w wr pr pe bl b ⟨x1, x2, x3, x4, x5⟩ (.slice A2 m.length cap2) r mv sf)) (fun iv _ => 9 - (intOf iv).toNat)
    case atStart => exact ⟨0, by omega, rfl, fun j hj => by omega, LS⟩
    case round =>
      obtain ⟨k, hk, rfl, hno, hls⟩ := hrel
      have HN := Lib.hid hno.out
      have LK := Lib.hid hls.out
      clear hno hls LS
      by_cases hlt : k < 9
      · have hlt' : (k : Int) < 9 := by omega
        obtain ⟨b0, b1⟩ := LK.out.2.2.1 k hlt
        obtain ⟨ap, hap⟩ : ∃ q, apL ⟨x1, x2, x3, x4, x5⟩ r mv sf k = q := ⟨_, rfl⟩
        have HCk : Hid (∀ W, LinAt W bl b → Calls Try.prog (fnL k) (#[Evv ⟨x1, x2, x3, x4, x5⟩ (.slice A2 m.length cap2) r mv sf] ++ cpL b k) W (Back (.bool ap) W)) := fun W h => by rw [← hap]; exact AS.out W k hlt h
        have HAP := Lib.hid hap
        have hfk := fnL_enters k
        clear hap
        go_upto_region 6 with fail
        generalize hwq : World.alloc wr _ = wq
        have hbq : Below wr.heap.size wr wq := by rw [← hwq]; exact (Below.refl _ _).alloc (Nat.le_refl _) _
        have q0 : wq.cell? ⟨wr.heap.size, 0, none⟩ = some (.int .i64 ((k + 1 : Nat) : Int)) := by rw [← hwq]; simp [go_sem]
        have q1 : wq.cell? ⟨wr.heap.size, 1, none⟩ = some (.func (.func (fnL k)) #[] (cpL b k)) := by rw [← hwq]; simp [go_sem]
        have LQ := Lib.hid (LK.out.up hbq)
        have Q0 := Lib.hid q0
        clear hwq hbq b0 b1 LK
        obtain ⟨g0, g1, g2, g3, g4, g5, g6, g7, g8⟩ : _ ∧ _ ∧ _ ∧ _ ∧ _ ∧ _ ∧ _ ∧ _ ∧ _ := ⟨(LQ.out.2.1 0 (by omega)).1, (LQ.out.2.1 1 (by omega)).1, (LQ.out.2.1 2 (by omega)).1, (LQ.out.2.1 3 (by omega)).1, (LQ.out.2.1 4 (by omega)).1, (LQ.out.2.1 5 (by omega)).1, (LQ.out.2.1 6 (by omega)).1, (LQ.out.2.1 7 (by omega)).1, (LQ.out.2.1 8 (by omega)).1⟩
        simp only [evC, List.getElem?_cons_succ, List.getElem?_cons_zero] at g0 g1 g2 g3 g4 g5 g6 g7 g8
        go_wp2_with fail
        refine (HCk.out _ LQ.out.2.2).mono ?_
        rintro e1 w3 ⟨rfl, hb3⟩
        have q3 := upc Q0.out hb3
        have L3 := Lib.hid (LQ.out.up hb3)
        clear hb3 g0 g1 g2 g3 g4 g5 g6 g7 g8 q0 q1 LQ Q0 HCk
        cases ap
        · clear q3
          go_wp2_with fail
          go_roundw
          case rel =>
            refine ⟨k + 1, by omega, by go_num, fun j hj => ?_, L3⟩
            by_cases e : j = k
            · subst e; exact HAP.out
            · exact HN.out j (by omega)
          case measure => simp [intOf]; omega
        · obtain ⟨⟨r0, r1, r2⟩, f0, f1, f2⟩ := L3.out.1.2.2.2.1.cells
          go_wp2_with fail
          go_meet
          exact ⟨k + 1, RN.out k hlt HAP.out HN.out, by simpa using L3.out.1.set0 ((k + 1 : Nat) : Int)⟩
      · obtain rfl : k = 9 := by omega
        go_wp2_with fail
        go_meet
        exact ⟨0, RZ.out HN.out, LK.out.1⟩
  case rest => 
    obtain ⟨k, hk, hJ⟩ := hcut
    have HK := Lib.hid hk
    have JH := Lib.hid hJ
    have S48 : Hid (∀ W, Below w.heap.size w W → Calls Try.prog 48 #[.slice A l.length cap] W fun e w' => (∃ g c, e = .returned (.slice (some ⟨g, 0, none⟩) l.length c) ∧ W.heap.size ≤ g ∧ RowS w' (.slice (some ⟨g, 0, none⟩) l.length c) (srt l)) ∧ Below W.heap.size W w') := fun W hW => sort_any l _ W (HV.out.up hW) (by omega) (chk_bnd HL.out) (chk_dis HL.out)
    have S65 : Hid (∀ W, Below w.heap.size w W → Calls Try.prog 65 #[.slice A l.length cap] W fun e w' => (∃ g c, e = .returned (.agg #[.slice (some ⟨g, 0, none⟩) l.length c, .bool false]) ∧ W.heap.size ≤ g ∧ RowS w' (.slice (some ⟨g, 0, none⟩) l.length c) (srt l)) ∧ Below W.heap.size W w') := fun W hW => as_any l _ W (HV.out.up hW) (by omega) (chk_bnd HL.out) (chk_dis HL.out)
    have M65 : Hid (∀ W, Below w.heap.size w W → Calls Try.prog 65 #[.slice A2 m.length cap2] W fun e w' => (∃ g c, e = .returned (.agg #[.slice (some ⟨g, 0, none⟩) m.length c, .bool false]) ∧ W.heap.size ≤ g ∧ RowS w' (.slice (some ⟨g, 0, none⟩) m.length c) (srt m)) ∧ Below W.heap.size W w') := fun W hW => as_any m _ W (HU.out.up hW) (by omega) (chk_bnd HM.out) (chk_dis HM.out)
    clear hk hJ
    go_upto_region 11 with (go_at_call 48; (with_reducible refine (S48.out _ (JdS.below JH.out)).mono ?_); rintro e1 w3 ⟨⟨g3, c3, rfl, hge, hr⟩, hb3⟩; have hpg : pr + 1 ≤ g3 := Nat.lt_of_lt_of_le JH.out.2.2.2.1.lt hge; replace JH := Lib.hid (JH.out.up hb3); have HR := Lib.hid hr; have HPG := Lib.hid hpg; have HPO0 : Hid (pr < w3.heap.size) := JH.out.2.2.2.1.lt; clear hr hge hpg hb3 S48)
    generalize hwp : World.alloc w3 _ = wp
    have hbp : Below w3.heap.size w3 wp := by rw [← hwp]; exact (Below.refl _ _).alloc (Nat.le_refl _) _
    have OA : Hid (OcAt wp w3.heap.size 0 ⟨.slice (some ⟨g3, 0, none⟩) l.length c3, srt l, true⟩) := by show OcAt _ _ _ _; rw [← hwp]; exact OcAt.new w3 ⟨.slice (some ⟨g3, 0, none⟩) l.length c3, srt l, true⟩
    replace JH := Lib.hid (JH.out.up hbp)
    have OG : Hid (OcG wp (pr + 1) [⟨.slice (some ⟨g3, 0, none⟩) l.length c3, srt l, true⟩]) := OcG.cons (HR.out.up hbp) ⟨g3, _, _, rfl, HPG.out⟩ OcG.nil
    obtain ⟨po, hpo⟩ : ∃ p, w3.heap.size = p := ⟨_, rfl⟩
    rw [hpo] at OA
    rw [hpo]
    have HPO : Hid (po ≠ pr) := by show _ ≠ _; have := HPO0.out; omega
    clear hwp hbp hpo HR HPG HPO0
    have c5 := JH.out.2.1.2.2.2.2.2
    obtain ⟨⟨r0, r1, r2⟩, f0, f1, f2⟩ := JH.out.2.2.2.1.cells
    by_cases e0 : k = 0
    · subst e0
      go_upto_region 24 with (first
        | (go_at_call 65; (with_reducible refine (M65.out _ (JdS.below JH.out)).mono ?_); rintro e1 w4 ⟨⟨g4, c4, rfl, hge4, hr4⟩, hb4⟩; have hlt4 := JH.out.2.2.2.1.lt; have OG4 : Hid (OcG w4 (pr + 1) [⟨.slice (some ⟨g4, 0, none⟩) m.length c4, srt m, false⟩]) := OcG.cons hr4 ⟨g4, _, _, rfl, by omega⟩ OcG.nil; replace JH := Lib.hid (JH.out.up hb4); have D66 : Hid (Calls Try.prog 66 #[.slice (some ⟨w4.heap.size, 0, none⟩) 1 1] (w4.alloc (.cells #[.slice (some ⟨g4, 0, none⟩) m.length c4, .bool false] 46)) fun e w' => ∃ A n c, e = .returned (.slice A n c) ∧ JdE w w' pr ⟨x1, x2, x3, x4, x5⟩ (.slice A2 m.length cap2) 0 [⟨.slice (some ⟨g4, 0, none⟩) m.length c4, srt m, false⟩] A n c ∧ Below (w4.alloc (.cells #[.slice (some ⟨g4, 0, none⟩) m.length c4, .bool false] 46)).heap.size (w4.alloc (.cells #[.slice (some ⟨g4, 0, none⟩) m.length c4, .bool false] 46)) w') := dist_jd w w4 pr _ _ _ [⟨.slice (some ⟨g4, 0, none⟩) m.length c4, srt m, false⟩] _ rfl JH.out OG4.out (by simp); clear hge4 hr4 hb4 hlt4 r0 r1 r2 f0 f1 f2 c5 OG4)
        | (go_at_call 66; (with_reducible refine D66.out.mono ?_); rintro e1 w5 ⟨A5, n5, c5, rfl, hE, -⟩; have JE := Lib.hid hE; obtain ⟨⟨r0, r1, r2⟩, f0, f1, f2⟩ := hE.1.2.2.2.1.cells; clear hE D66))
      generalize hws : World.setCell _ _ _ = ws
      obtain ⟨XR, XG, XZ⟩ : Hid (R3 ws pr 0 (-1) (.slice A5 n5 c5)) ∧ Hid (w5.grownBy ws (some pr)) ∧ Hid (R3 ws (w.heap.size + 1 + 1) 0 0 (.slice none 0 0)) := by rw [← hws]; exact JE.out.st2 (.slice A5 n5 c5)
      clear hws r0 r1 r2 f0 f1 f2
      obtain ⟨⟨r0, r1, r2⟩, f0, f1, f2⟩ := XR.out.cells
      obtain ⟨⟨z0, z1, z2⟩, i0, i1, i2⟩ := XZ.out.cells
      go_wp2_with fail
      rw [Exit.noGoto_ret]
      refine bodyPost_ret (results_r3 rfl _ _ rfl (set3 XZ.out 0 (-1) (.slice A5 n5 c5)) ⟨_, _, _, rfl⟩) rfl ?_
      rw [← HK.out]
      exact jud_end (k := 0) (ch := (-1)) JE.out (by simp) (by simp [judC]) (by show ddP [_] = _; unfold judP; simp [ddP, oP]) XG.out
    by_cases e4 : k = 4
    · subst e4
      obtain ⟨o0, o1⟩ := OA.out
      simp only [Nat.zero_add] at o0 o1
      have D66 : Hid (Calls Try.prog 66 #[.slice (some ⟨wp.heap.size, 0, none⟩) 1 1] (wp.alloc (.cells #[.slice (some ⟨g3, 0, none⟩) l.length c3, .bool true] 46)) fun e w' => ∃ A n c, e = .returned (.slice A n c) ∧ JdE w w' pr ⟨x1, x2, x3, x4, x5⟩ (.slice A2 m.length cap2) 4 [⟨.slice (some ⟨g3, 0, none⟩) l.length c3, srt l, true⟩] A n c ∧ Below (wp.alloc (.cells #[.slice (some ⟨g3, 0, none⟩) l.length c3, .bool true] 46)).heap.size (wp.alloc (.cells #[.slice (some ⟨g3, 0, none⟩) l.length c3, .bool true] 46)) w') := dist_jd w wp pr _ _ _ [⟨.slice (some ⟨g3, 0, none⟩) l.length c3, srt l, true⟩] _ rfl JH.out OG.out (by simp)
      go_upto_region 24 with (go_at_call 66; (with_reducible refine D66.out.mono ?_); rintro e1 w5 ⟨A5, n5, c5x, rfl, hE, -⟩; have JE := Lib.hid hE; clear r0 r1 r2 f0 f1 f2 o0 o1 c5; obtain ⟨⟨r0, r1, r2⟩, f0, f1, f2⟩ := hE.1.2.2.2.1.cells; clear hE D66)
      generalize hws : World.setCell _ _ _ = ws
      obtain ⟨XR, XG, XZ⟩ : Hid (R3 ws pr 4 (-1) (.slice A5 n5 c5x)) ∧ Hid (w5.grownBy ws (some pr)) ∧ Hid (R3 ws (w.heap.size + 1 + 1) 0 0 (.slice none 0 0)) := by rw [← hws]; exact JE.out.st2 (.slice A5 n5 c5x)
      clear hws r0 r1 r2 f0 f1 f2
      obtain ⟨⟨r0, r1, r2⟩, f0, f1, f2⟩ := XR.out.cells
      obtain ⟨⟨z0, z1, z2⟩, i0, i1, i2⟩ := XZ.out.cells
      go_wp2_with fail
      rw [Exit.noGoto_ret]
      refine bodyPost_ret (results_r3 rfl _ _ rfl (set3 XZ.out 4 (-1) (.slice A5 n5 c5x)) ⟨_, _, _, rfl⟩) rfl ?_
      rw [← HK.out]
      exact jud_end (k := 4) (ch := (-1)) JE.out (by simp) (by simp [judC]) (by show ddP [_] = _; unfold judP; simp [ddP, oP]) XG.out
    by_cases e5 : k = 5
    · subst e5
      go_upto_region 19 with fail
      have hdr : Below wp.heap.size wp wp.drew := (Below.refl _ _).drew
      have SX : Hid (SJ w wp.drew po ⟨x1, x2, x3, x4, x5⟩ (.slice A2 m.length cap2) ⟨.slice (some ⟨g3, 0, none⟩) l.length c3, srt l, true⟩) := ⟨JH.out.2.1.up hdr, OA.out.up hdr⟩
      replace JH := Lib.hid (JH.out.up hdr)
      replace OG := Lib.hid (OG.out.up hdr)
      clear hdr c5 r0 r1 r2 f0 f1 f2 OA
      refine wp_region_P (fun _ w' => SJ w w' po ⟨x1, x2, x3, x4, x5⟩ (.slice A2 m.length cap2) ⟨.slice (some ⟨g3, 0, none⟩) l.length c3, srt l, true⟩) (by kernel_rfl) ?_
      refine wpAnyP_take (i := 0) (v := .pointer (some ⟨w.heap.size + 1, 0, none⟩)) rfl (by kernel_rfl) (by kernel_rfl) (by kernel_rfl) (fun _ _ _ h => h) (yieldsIf_run rfl (fun wq hS => ?_)) SX.out ?_
      · go_simp
      refine wpAnyP_take (i := 1) (v := .int .i64 x1) rfl (by kernel_rfl) (by kernel_rfl) (by kernel_rfl) (fun _ _ _ h => h) (yieldsIf_run rfl (fun wq hS => ?_)) SX.out ?_
      · obtain ⟨⟨q0, q1, q2, q3, q4, q5⟩, -⟩ := hS
        simp only at q0
        go_simp
      refine wpAnyP_take (i := 2) (v := .int .i64 (1 - x1)) rfl (by kernel_rfl) (by kernel_rfl) (by kernel_rfl) (fun _ _ _ h => h) (yieldsIf_run rfl (fun wq hS => ?_)) SX.out ?_
      · go_simp
        exact IntWalk.i64_in _ (by omega)
      refine wpAnyP_take (i := 3) (v := .func (.func 65) #[] #[]) rfl (by kernel_rfl) (by kernel_rfl) (by kernel_rfl) (fun _ _ _ h => h) (yieldsIf_run rfl (fun wq hS => ?_)) SX.out ?_
      · go_simp
      refine wpAnyP_take (i := 4) (v := .slice A l.length cap) rfl (by kernel_rfl) (by kernel_rfl) (by kernel_rfl) (fun _ _ _ h => h) (yieldsIf_run rfl (fun wq hS => ?_)) SX.out ?_
      · go_simp
      refine wpAnyP_take (i := 6) (v := .func (.func 65) #[] #[]) rfl (by kernel_rfl) (by kernel_rfl) (by kernel_rfl) (fun _ _ _ h => h) (yieldsIf_run rfl (fun wq hS => ?_)) SX.out ?_
      · go_simp
      refine wpAnyP_take (i := 7) (v := .pointer (some ⟨w.heap.size + 1, 5, none⟩)) rfl (by kernel_rfl) (by kernel_rfl) (by kernel_rfl) (fun _ _ _ h => h) (yieldsIf_run rfl (fun wq hS => ?_)) SX.out ?_
      · go_simp
      refine wpAnyP_take (i := 8) (v := .slice A2 m.length cap2) rfl (by kernel_rfl) (by kernel_rfl) (by kernel_rfl) (fun _ _ _ h => h) (yieldsIf_run rfl (fun wq hS => ?_)) SX.out ?_
      · obtain ⟨⟨q0, q1, q2, q3, q4, q5⟩, -⟩ := hS
        simp only at q0
        go_simp
      refine wpAnyP_take (i := 10) (v := .func (.func 65) #[] #[]) rfl (by kernel_rfl) (by kernel_rfl) (by kernel_rfl) (fun _ _ _ h => h) (yieldsIf_run rfl (fun wq hS => ?_)) SX.out ?_
      · go_simp
      refine wpAnyP_take (i := 11) (v := .pointer (some ⟨w.heap.size + 1, 5, none⟩)) rfl (by kernel_rfl) (by kernel_rfl) (by kernel_rfl) (fun _ _ _ h => h) (yieldsIf_run rfl (fun wq hS => ?_)) SX.out ?_
      · go_simp
      refine wpAnyP_take (i := 12) (v := .slice A2 m.length cap2) rfl (by kernel_rfl) (by kernel_rfl) (by kernel_rfl) (fun _ _ _ h => h) (yieldsIf_run rfl (fun wq hS => ?_)) SX.out ?_
      · obtain ⟨⟨q0, q1, q2, q3, q4, q5⟩, -⟩ := hS
        simp only at q0
        go_simp
      refine wpAnyP_take (i := 14) (v := .func (.func 67) #[] #[.pointer (some ⟨w.heap.size + 1, 0, none⟩)]) rfl (by kernel_rfl) (by kernel_rfl) (by kernel_rfl) (fun _ _ _ h => h) (yieldsIf_run rfl (fun wq hS => ?_)) SX.out ?_
      · go_simp
      refine wpAnyP_take (i := 19) (v := .pointer (some ⟨pr, 1, none⟩)) rfl (by kernel_rfl) (by kernel_rfl) (by kernel_rfl) (fun _ _ _ h => h) (yieldsIf_run rfl (fun wq hS => ?_)) SX.out ?_
      · go_simp
      refine wpAnyP_one (i := 5) (by kernel_rfl) (wpOp_call (f := 65) (args := #[.slice A l.length cap]) rfl rfl (by kernel_rfl) ?_)
      refine (S65.out _ (JdS.below JH.out)).mono ?_
      rintro e1 w4 ⟨⟨g4, c4, rfl, hge, hr⟩, hb⟩
      refine ⟨_, rfl, fun _ _ hS => hS.up hb, ?_⟩
      have R4 : Hid (OcG w4 (pr + 1) [⟨.slice (some ⟨g4, 0, none⟩) l.length c4, srt l, false⟩]) := OcG.cons hr ⟨g4, _, _, rfl, Nat.lt_of_lt_of_le JH.out.2.2.2.1.lt hge⟩ OcG.nil
      replace JH := Lib.hid (JH.out.up hb)
      replace OG := Lib.hid (OG.out.up hb)
      replace SX := Lib.hid (SX.out.up hb)
      clear hge hr hb
      refine wpAnyP_one (i := 9) (by kernel_rfl) (wpOp_call (f := 65) (args := #[.slice A2 m.length cap2]) rfl rfl (by kernel_rfl) ?_)
      refine (M65.out _ (JdS.below JH.out)).mono ?_
      rintro e1 w6 ⟨⟨g6, c6, rfl, hge, hr⟩, hb⟩
      refine ⟨_, rfl, fun _ _ hS => hS.up hb, ?_⟩
      have R6 : Hid (OcG w6 (pr + 1) [⟨.slice (some ⟨g6, 0, none⟩) m.length c6, srt m, false⟩]) := OcG.cons hr ⟨g6, _, _, rfl, Nat.lt_of_lt_of_le JH.out.2.2.2.1.lt hge⟩ OcG.nil
      replace JH := Lib.hid (JH.out.up hb)
      replace OG := Lib.hid (OG.out.up hb)
      replace R4 := Lib.hid (R4.out.up hb)
      replace SX := Lib.hid (SX.out.up hb)
      clear hge hr hb
      refine wpAnyP_one (i := 13) (by kernel_rfl) (wpOp_call (f := 69) (args := #[.slice A2 m.length cap2]) rfl rfl (by kernel_rfl) ?_)
      refine (Clone_any m _ _ (HU.out.up (JdS.below JH.out)) (by omega)).mono ?_
      rintro e1 w7 ⟨u7, rfl, how, hb⟩
      refine ⟨_, rfl, fun _ _ hS => hS.up hb, ?_⟩
      have hlt6 : w.heap.size + 1 < w6.heap.size := by have := JH.out.2.2.2.1.lt; have := JH.out.2.2.2.2; omega
      have hpo6 := SX.out.lt
      have J6 := JH
      have R46 := R4
      have R66 := R6
      replace JH := Lib.hid (JH.out.up hb)
      have h76 := hb.size
      refine wpAnyP_one (i := 15) (by kernel_rfl) (wpOp_call (f := 68) (args := #[u7, .func (.func 67) #[] #[.pointer (some ⟨w.heap.size + 1, 0, none⟩)]]) rfl rfl (by kernel_rfl) ?_)
      refine (del_any w6.heap.size 67 #[.pointer (some ⟨w.heap.size + 1, 0, none⟩)] (fun s => eqK s.t s.n x1 x2) m u7 w7 (enters_of Try.func67 (by kernel_rfl) rfl) how (by omega) h76 (fun s W hW => own67 ⟨x1, x2, x3, x4, x5⟩ (w.heap.size + 1) s W (cellB hW hlt6 JH.out.2.1.1) (cellB hW hlt6 JH.out.2.1.2.1))).mono ?_
      rintro e1 w8 ⟨⟨u8, rfl, hr8⟩, hb8⟩
      have hb68 := hb.trans hb8
      refine ⟨_, rfl, fun _ _ hS => ?_, ?_⟩
      · exact hS.below hb8 hlt6 hpo6
      have SX8 : Hid (SJ w w8 po ⟨x1, x2, x3, x4, x5⟩ (.slice A2 m.length cap2) ⟨.slice (some ⟨g3, 0, none⟩) l.length c3, srt l, true⟩) := SX.out.below hb68 hlt6 hpo6
      clear SX
      have SX := SX8
      clear SX8
      replace JH := Lib.hid (J6.out.up hb68)
      replace R4 := Lib.hid (R46.out.up hb68)
      replace R6 := Lib.hid (R66.out.up hb68)
      have hlg : (gone ⟨x1, x2, x3, x4, x5⟩ m).length ≤ 1000 := Nat.le_trans (List.length_filter_le _ _) (by omega)
      clear how hb hb8 hb68 J6 R46 R66 hlt6 h76 hpo6
      refine wpAnyP_one (i := 16) (by kernel_rfl) (wpOp_call (f := 65) (args := #[u8]) rfl rfl (by kernel_rfl) ?_)
      refine (as_any (gone ⟨x1, x2, x3, x4, x5⟩ m) u8 w8 hr8 hlg (bnd_filter (chk_bnd HM.out) _) (dis_filter (chk_dis HM.out) _)).mono ?_
      rintro e1 w9 ⟨⟨g9, c9, rfl, hge, hr⟩, hb⟩
      refine ⟨_, rfl, fun _ _ hS => hS.up hb, ?_⟩
      have R9 : Hid (OcG w9 (pr + 1) [⟨.slice (some ⟨g9, 0, none⟩) (gone ⟨x1, x2, x3, x4, x5⟩ m).length c9, srt (gone ⟨x1, x2, x3, x4, x5⟩ m), false⟩]) := OcG.cons hr ⟨g9, _, _, rfl, Nat.lt_of_lt_of_le JH.out.2.2.2.1.lt hge⟩ OcG.nil
      replace JH := Lib.hid (JH.out.up hb)
      replace R4 := Lib.hid (R4.out.up hb)
      replace R6 := Lib.hid (R6.out.up hb)
      replace SX := Lib.hid (SX.out.up hb)
      clear hge hr hb
      refine wpAnyP_one (i := 17) (by kernel_rfl) (wpOp_run (v := .slice (some ⟨w9.heap.size, 0, none⟩) 3 3) (w' := w9.alloc (.cells #[.slice (some ⟨g4, 0, none⟩) l.length c4, .bool false, .slice (some ⟨g6, 0, none⟩) m.length c6, .bool false, .slice (some ⟨g9, 0, none⟩) (gone ⟨x1, x2, x3, x4, x5⟩ m).length c9, .bool false] 46)) rfl rfl (by go_simp) ⟨fun _ _ hS => hS.alloc _, ?_⟩)
      refine wpAnyP_one (i := 18) (by kernel_rfl) (wpOp_call (f := 66) (args := #[.slice (some ⟨w9.heap.size, 0, none⟩) 3 3]) rfl rfl (by kernel_rfl) ?_)
      refine (dist_jd w w9 pr _ _ 5 [⟨.slice (some ⟨g4, 0, none⟩) l.length c4, srt l, false⟩, ⟨.slice (some ⟨g6, 0, none⟩) m.length c6, srt m, false⟩, ⟨.slice (some ⟨g9, 0, none⟩) (gone ⟨x1, x2, x3, x4, x5⟩ m).length c9, srt (gone ⟨x1, x2, x3, x4, x5⟩ m), false⟩] _ rfl JH.out (OcG.cons (R4.out _ (List.mem_cons_self ..)).1 (R4.out _ (List.mem_cons_self ..)).2 (OcG.cons (R6.out _ (List.mem_cons_self ..)).1 (R6.out _ (List.mem_cons_self ..)).2 R9.out)) (by simp)).mono ?_
      rintro e1 w5 ⟨A5, n5, c5, rfl, hE, hb⟩
      refine ⟨_, rfl, fun _ _ hS => hS.up hb, ?_⟩
      have JE := Lib.hid hE
      have hsz := JH.out.2.2.2.2
      obtain ⟨⟨r0, r1, r2⟩, f0, f1, f2⟩ := hE.1.2.2.2.1.cells
      clear hb
      refine wpAnyP_one (i := 20) (by kernel_rfl) (wpOp_skip (w' := w5.setCell ⟨pr, 1, none⟩ (.int .i64 (1 - x1))) rfl rfl ?_ ⟨fun _ _ hS => hS.kept (grown_set w5 ⟨pr, 1, none⟩ _) (by show _ ≠ pr; omega) HPO.out, ?_⟩)
      · unfold execOp
        go_simp
      clear r0 r1 r2 f0 f1 f2
      obtain ⟨⟨r0, r1, r2⟩, f0, f1, f2⟩ := (hE.1.2.2.2.1.set1 (1 - x1)).cells
      refine wpAnyP_one (i := 21) (by kernel_rfl) (wpOp_run (v := .pointer (some ⟨pr, 2, none⟩)) (w' := w5.setCell ⟨pr, 1, none⟩ (.int .i64 (1 - x1))) rfl rfl (by go_simp) ⟨fun _ _ hS => hS, ?_⟩)
      refine wpAnyP_one (i := 22) (by kernel_rfl) (wpOp_skip (w' := (w5.setCell ⟨pr, 1, none⟩ (.int .i64 (1 - x1))).setCell ⟨pr, 2, none⟩ (.slice A5 n5 c5)) rfl rfl ?_ ⟨fun _ _ hS => hS.kept (grown_set _ ⟨pr, 2, none⟩ _) (by show _ ≠ pr; omega) HPO.out, ?_⟩)
      · unfold execOp
        go_simp
      refine wpAnyP_done (by kernel_rfl) ?_ _
      clear hE hsz
      generalize hws : World.setCell _ _ _ = ws
      obtain ⟨XR, XG, XZ⟩ : Hid (R3 ws pr 5 (1 - x1) (.slice A5 n5 c5)) ∧ Hid (w5.grownBy ws (some pr)) ∧ Hid (R3 ws (w.heap.size + 1 + 1) 0 0 (.slice none 0 0)) := by rw [← hws]; exact JE.out.st12 (1 - x1) (.slice A5 n5 c5)
      clear hws r0 r1 r2 f0 f1 f2
      obtain ⟨⟨r0, r1, r2⟩, f0, f1, f2⟩ := XR.out.cells
      obtain ⟨⟨z0, z1, z2⟩, i0, i1, i2⟩ := XZ.out.cells
      go_wp2_with fail
      rw [Exit.noGoto_ret]
      refine bodyPost_ret (results_r3 rfl _ _ rfl (set3 XZ.out 5 (1 - x1) (.slice A5 n5 c5)) ⟨_, _, _, rfl⟩) rfl ?_
      rw [← HK.out]
      exact jud_end (k := 5) (ch := (1 - x1)) JE.out (by simp) (by simp [judC]) (by show ddP [_, _, _] = _; unfold judP; simp [oP]) XG.out
    by_cases e6 : k = 6
    · subst e6
      go_upto_region 21 with fail
      have hdr : Below wp.heap.size wp wp.drew := (Below.refl _ _).drew
      have SX : Hid (SJ w wp.drew po ⟨x1, x2, x3, x4, x5⟩ (.slice A2 m.length cap2) ⟨.slice (some ⟨g3, 0, none⟩) l.length c3, srt l, true⟩) := ⟨JH.out.2.1.up hdr, OA.out.up hdr⟩
      replace JH := Lib.hid (JH.out.up hdr)
      replace OG := Lib.hid (OG.out.up hdr)
      clear hdr c5 r0 r1 r2 f0 f1 f2 OA
      refine wp_region_P (fun _ w' => SJ w w' po ⟨x1, x2, x3, x4, x5⟩ (.slice A2 m.length cap2) ⟨.slice (some ⟨g3, 0, none⟩) l.length c3, srt l, true⟩) (by kernel_rfl) ?_
      refine wpAnyP_take (i := 0) (v := .pointer (some ⟨w.heap.size + 1, 0, none⟩)) rfl (by kernel_rfl) (by kernel_rfl) (by kernel_rfl) (fun _ _ _ h => h) (yieldsIf_run rfl (fun wq hS => ?_)) SX.out ?_
      · go_simp
      refine wpAnyP_take (i := 1) (v := .int .i64 x1) rfl (by kernel_rfl) (by kernel_rfl) (by kernel_rfl) (fun _ _ _ h => h) (yieldsIf_run rfl (fun wq hS => ?_)) SX.out ?_
      · obtain ⟨⟨q0, q1, q2, q3, q4, q5⟩, -⟩ := hS
        simp only at q0
        go_simp
      refine wpAnyP_take (i := 2) (v := .func (.func 65) #[] #[]) rfl (by kernel_rfl) (by kernel_rfl) (by kernel_rfl) (fun _ _ _ h => h) (yieldsIf_run rfl (fun wq hS => ?_)) SX.out ?_
      · go_simp
      refine wpAnyP_take (i := 3) (v := .pointer (some ⟨w.heap.size + 1, 5, none⟩)) rfl (by kernel_rfl) (by kernel_rfl) (by kernel_rfl) (fun _ _ _ h => h) (yieldsIf_run rfl (fun wq hS => ?_)) SX.out ?_
      · go_simp
      refine wpAnyP_take (i := 4) (v := .slice A2 m.length cap2) rfl (by kernel_rfl) (by kernel_rfl) (by kernel_rfl) (fun _ _ _ h => h) (yieldsIf_run rfl (fun wq hS => ?_)) SX.out ?_
      · obtain ⟨⟨q0, q1, q2, q3, q4, q5⟩, -⟩ := hS
        simp only at q0
        go_simp
      refine wpAnyP_take (i := 6) (v := .agg #[.slice (some ⟨g3, 0, none⟩) l.length c3, .bool true]) rfl (by kernel_rfl) (by kernel_rfl) (by kernel_rfl) (fun _ _ _ h => h) (yieldsIf_run rfl (fun wq hS => ?_)) SX.out ?_
      · obtain ⟨-, q0, q1⟩ := hS
        simp only [Nat.zero_add] at q0 q1
        go_simp
      refine wpAnyP_take (i := 9) (v := .pointer (some ⟨pr, 1, none⟩)) rfl (by kernel_rfl) (by kernel_rfl) (by kernel_rfl) (fun _ _ _ h => h) (yieldsIf_run rfl (fun wq hS => ?_)) SX.out ?_
      · go_simp
      refine wpAnyP_one (i := 5) (by kernel_rfl) (wpOp_call (f := 65) (args := #[.slice A2 m.length cap2]) rfl rfl (by kernel_rfl) ?_)
      refine (M65.out _ (JdS.below JH.out)).mono ?_
      rintro e1 w4 ⟨⟨g4, c4, rfl, hge, hr⟩, hb⟩
      refine ⟨_, rfl, fun _ _ hS => hS.up hb, ?_⟩
      have R4 : Hid (OcG w4 (pr + 1) [⟨.slice (some ⟨g4, 0, none⟩) m.length c4, srt m, false⟩]) := OcG.cons hr ⟨g4, _, _, rfl, Nat.lt_of_lt_of_le JH.out.2.2.2.1.lt hge⟩ OcG.nil
      replace JH := Lib.hid (JH.out.up hb)
      replace OG := Lib.hid (OG.out.up hb)
      replace SX := Lib.hid (SX.out.up hb)
      clear hge hr hb
      refine wpAnyP_one (i := 7) (by kernel_rfl) (wpOp_run (v := .slice (some ⟨w4.heap.size, 0, none⟩) 2 2) (w' := w4.alloc (.cells #[.slice (some ⟨g4, 0, none⟩) m.length c4, .bool false, .slice (some ⟨g3, 0, none⟩) l.length c3, .bool true] 46)) rfl rfl (by go_simp) ⟨fun _ _ hS => hS.alloc _, ?_⟩)
      refine wpAnyP_one (i := 8) (by kernel_rfl) (wpOp_call (f := 66) (args := #[.slice (some ⟨w4.heap.size, 0, none⟩) 2 2]) rfl rfl (by kernel_rfl) ?_)
      refine (dist_jd w w4 pr _ _ 6 [⟨.slice (some ⟨g4, 0, none⟩) m.length c4, srt m, false⟩, ⟨.slice (some ⟨g3, 0, none⟩) l.length c3, srt l, true⟩] _ rfl JH.out (OcG.cons (R4.out _ (List.mem_cons_self ..)).1 (R4.out _ (List.mem_cons_self ..)).2 OG.out) (by simp)).mono ?_
      rintro e1 w5 ⟨A5, n5, c5, rfl, hE, hb⟩
      refine ⟨_, rfl, fun _ _ hS => hS.up hb, ?_⟩
      have JE := Lib.hid hE
      have hsz := JH.out.2.2.2.2
      obtain ⟨⟨r0, r1, r2⟩, f0, f1, f2⟩ := hE.1.2.2.2.1.cells
      clear hb
      refine wpAnyP_one (i := 10) (by kernel_rfl) (wpOp_skip (w' := w5.setCell ⟨pr, 1, none⟩ (.int .i64 x1)) rfl rfl ?_ ⟨fun _ _ hS => hS.kept (grown_set w5 ⟨pr, 1, none⟩ _) (by show _ ≠ pr; omega) HPO.out, ?_⟩)
      · unfold execOp
        go_simp
      clear r0 r1 r2 f0 f1 f2
      obtain ⟨⟨r0, r1, r2⟩, f0, f1, f2⟩ := (hE.1.2.2.2.1.set1 x1).cells
      refine wpAnyP_one (i := 11) (by kernel_rfl) (wpOp_run (v := .pointer (some ⟨pr, 2, none⟩)) (w' := w5.setCell ⟨pr, 1, none⟩ (.int .i64 x1)) rfl rfl (by go_simp) ⟨fun _ _ hS => hS, ?_⟩)
      refine wpAnyP_one (i := 12) (by kernel_rfl) (wpOp_skip (w' := (w5.setCell ⟨pr, 1, none⟩ (.int .i64 x1)).setCell ⟨pr, 2, none⟩ (.slice A5 n5 c5)) rfl rfl ?_ ⟨fun _ _ hS => hS.kept (grown_set _ ⟨pr, 2, none⟩ _) (by show _ ≠ pr; omega) HPO.out, ?_⟩)
      · unfold execOp
        go_simp
      refine wpAnyP_done (by kernel_rfl) ?_ _
      clear hE hsz
      generalize hws : World.setCell _ _ _ = ws
      obtain ⟨XR, XG, XZ⟩ : Hid (R3 ws pr 6 x1 (.slice A5 n5 c5)) ∧ Hid (w5.grownBy ws (some pr)) ∧ Hid (R3 ws (w.heap.size + 1 + 1) 0 0 (.slice none 0 0)) := by rw [← hws]; exact JE.out.st12 x1 (.slice A5 n5 c5)
      clear hws r0 r1 r2 f0 f1 f2
      obtain ⟨⟨r0, r1, r2⟩, f0, f1, f2⟩ := XR.out.cells
      obtain ⟨⟨z0, z1, z2⟩, i0, i1, i2⟩ := XZ.out.cells
      go_wp2_with fail
      rw [Exit.noGoto_ret]
      refine bodyPost_ret (results_r3 rfl _ _ rfl (set3 XZ.out 6 x1 (.slice A5 n5 c5)) ⟨_, _, _, rfl⟩) rfl ?_
      rw [← HK.out]
      exact jud_end (k := 6) (ch := x1) JE.out (by simp) (by simp [judC]) (by show ddP [_, _] = _; unfold judP; simp [oP]) XG.out
    by_cases e9 : k = 9
    · subst e9
      go_upto_region 23 with fail
      have hdr : Below wp.heap.size wp wp.drew := (Below.refl _ _).drew
      have SX : Hid (SJ w wp.drew po ⟨x1, x2, x3, x4, x5⟩ (.slice A2 m.length cap2) ⟨.slice (some ⟨g3, 0, none⟩) l.length c3, srt l, true⟩) := ⟨JH.out.2.1.up hdr, OA.out.up hdr⟩
      replace JH := Lib.hid (JH.out.up hdr)
      replace OG := Lib.hid (OG.out.up hdr)
      clear hdr c5 r0 r1 r2 f0 f1 f2 OA
      refine wp_region_P (fun _ w' => SJ w w' po ⟨x1, x2, x3, x4, x5⟩ (.slice A2 m.length cap2) ⟨.slice (some ⟨g3, 0, none⟩) l.length c3, srt l, true⟩) (by kernel_rfl) ?_
      refine wpAnyP_take (i := 0) (v := .pointer (some ⟨w.heap.size + 1, 0, none⟩)) rfl (by kernel_rfl) (by kernel_rfl) (by kernel_rfl) (fun _ _ _ h => h) (yieldsIf_run rfl (fun wq hS => ?_)) SX.out ?_
      · go_simp
      refine wpAnyP_take (i := 1) (v := .int .i64 x1) rfl (by kernel_rfl) (by kernel_rfl) (by kernel_rfl) (fun _ _ _ h => h) (yieldsIf_run rfl (fun wq hS => ?_)) SX.out ?_
      · obtain ⟨⟨q0, q1, q2, q3, q4, q5⟩, -⟩ := hS
        simp only at q0
        go_simp
      refine wpAnyP_take (i := 2) (v := .int .i64 (1 - x1)) rfl (by kernel_rfl) (by kernel_rfl) (by kernel_rfl) (fun _ _ _ h => h) (yieldsIf_run rfl (fun wq hS => ?_)) SX.out ?_
      · go_simp
        exact IntWalk.i64_in _ (by omega)
      refine wpAnyP_take (i := 3) (v := .func (.func 65) #[] #[]) rfl (by kernel_rfl) (by kernel_rfl) (by kernel_rfl) (fun _ _ _ h => h) (yieldsIf_run rfl (fun wq hS => ?_)) SX.out ?_
      · go_simp
      refine wpAnyP_take (i := 4) (v := .pointer (some ⟨w.heap.size + 1, 5, none⟩)) rfl (by kernel_rfl) (by kernel_rfl) (by kernel_rfl) (fun _ _ _ h => h) (yieldsIf_run rfl (fun wq hS => ?_)) SX.out ?_
      · go_simp
      refine wpAnyP_take (i := 5) (v := .slice A2 m.length cap2) rfl (by kernel_rfl) (by kernel_rfl) (by kernel_rfl) (fun _ _ _ h => h) (yieldsIf_run rfl (fun wq hS => ?_)) SX.out ?_
      · obtain ⟨⟨q0, q1, q2, q3, q4, q5⟩, -⟩ := hS
        simp only at q0
        go_simp
      refine wpAnyP_take (i := 7) (v := .func (.func 65) #[] #[]) rfl (by kernel_rfl) (by kernel_rfl) (by kernel_rfl) (fun _ _ _ h => h) (yieldsIf_run rfl (fun wq hS => ?_)) SX.out ?_
      · go_simp
      refine wpAnyP_take (i := 8) (v := .slice A l.length cap) rfl (by kernel_rfl) (by kernel_rfl) (by kernel_rfl) (fun _ _ _ h => h) (yieldsIf_run rfl (fun wq hS => ?_)) SX.out ?_
      · go_simp
      refine wpAnyP_take (i := 12) (v := .pointer (some ⟨pr, 1, none⟩)) rfl (by kernel_rfl) (by kernel_rfl) (by kernel_rfl) (fun _ _ _ h => h) (yieldsIf_run rfl (fun wq hS => ?_)) SX.out ?_
      · go_simp
      refine wpAnyP_one (i := 6) (by kernel_rfl) (wpOp_call (f := 65) (args := #[.slice A2 m.length cap2]) rfl rfl (by kernel_rfl) ?_)
      refine (M65.out _ (JdS.below JH.out)).mono ?_
      rintro e1 w4 ⟨⟨g4, c4, rfl, hge, hr⟩, hb⟩
      refine ⟨_, rfl, fun _ _ hS => hS.up hb, ?_⟩
      have R4 : Hid (OcG w4 (pr + 1) [⟨.slice (some ⟨g4, 0, none⟩) m.length c4, srt m, false⟩]) := OcG.cons hr ⟨g4, _, _, rfl, Nat.lt_of_lt_of_le JH.out.2.2.2.1.lt hge⟩ OcG.nil
      replace JH := Lib.hid (JH.out.up hb)
      replace OG := Lib.hid (OG.out.up hb)
      replace SX := Lib.hid (SX.out.up hb)
      clear hge hr hb
      refine wpAnyP_one (i := 9) (by kernel_rfl) (wpOp_call (f := 65) (args := #[.slice A l.length cap]) rfl rfl (by kernel_rfl) ?_)
      refine (S65.out _ (JdS.below JH.out)).mono ?_
      rintro e1 w6 ⟨⟨g6, c6, rfl, hge, hr⟩, hb⟩
      refine ⟨_, rfl, fun _ _ hS => hS.up hb, ?_⟩
      have R6 : Hid (OcG w6 (pr + 1) [⟨.slice (some ⟨g6, 0, none⟩) l.length c6, srt l, false⟩]) := OcG.cons hr ⟨g6, _, _, rfl, Nat.lt_of_lt_of_le JH.out.2.2.2.1.lt hge⟩ OcG.nil
      replace JH := Lib.hid (JH.out.up hb)
      replace OG := Lib.hid (OG.out.up hb)
      replace R4 := Lib.hid (R4.out.up hb)
      replace SX := Lib.hid (SX.out.up hb)
      clear hge hr hb
      refine wpAnyP_one (i := 10) (by kernel_rfl) (wpOp_run (v := .slice (some ⟨w6.heap.size, 0, none⟩) 2 2) (w' := w6.alloc (.cells #[.slice (some ⟨g4, 0, none⟩) m.length c4, .bool false, .slice (some ⟨g6, 0, none⟩) l.length c6, .bool false] 46)) rfl rfl (by go_simp) ⟨fun _ _ hS => hS.alloc _, ?_⟩)
      refine wpAnyP_one (i := 11) (by kernel_rfl) (wpOp_call (f := 66) (args := #[.slice (some ⟨w6.heap.size, 0, none⟩) 2 2]) rfl rfl (by kernel_rfl) ?_)
      refine (dist_jd w w6 pr _ _ 9 [⟨.slice (some ⟨g4, 0, none⟩) m.length c4, srt m, false⟩, ⟨.slice (some ⟨g6, 0, none⟩) l.length c6, srt l, false⟩] _ rfl JH.out (OcG.cons (R4.out _ (List.mem_cons_self ..)).1 (R4.out _ (List.mem_cons_self ..)).2 R6.out) (by simp)).mono ?_
      rintro e1 w5 ⟨A5, n5, c5, rfl, hE, hb⟩
      refine ⟨_, rfl, fun _ _ hS => hS.up hb, ?_⟩
      have JE := Lib.hid hE
      have hsz := JH.out.2.2.2.2
      obtain ⟨⟨r0, r1, r2⟩, f0, f1, f2⟩ := hE.1.2.2.2.1.cells
      clear hb
      refine wpAnyP_one (i := 13) (by kernel_rfl) (wpOp_skip (w' := w5.setCell ⟨pr, 1, none⟩ (.int .i64 (1 - x1))) rfl rfl ?_ ⟨fun _ _ hS => hS.kept (grown_set w5 ⟨pr, 1, none⟩ _) (by show _ ≠ pr; omega) HPO.out, ?_⟩)
      · unfold execOp
        go_simp
      clear r0 r1 r2 f0 f1 f2
      obtain ⟨⟨r0, r1, r2⟩, f0, f1, f2⟩ := (hE.1.2.2.2.1.set1 (1 - x1)).cells
      refine wpAnyP_one (i := 14) (by kernel_rfl) (wpOp_run (v := .pointer (some ⟨pr, 2, none⟩)) (w' := w5.setCell ⟨pr, 1, none⟩ (.int .i64 (1 - x1))) rfl rfl (by go_simp) ⟨fun _ _ hS => hS, ?_⟩)
      refine wpAnyP_one (i := 15) (by kernel_rfl) (wpOp_skip (w' := (w5.setCell ⟨pr, 1, none⟩ (.int .i64 (1 - x1))).setCell ⟨pr, 2, none⟩ (.slice A5 n5 c5)) rfl rfl ?_ ⟨fun _ _ hS => hS.kept (grown_set _ ⟨pr, 2, none⟩ _) (by show _ ≠ pr; omega) HPO.out, ?_⟩)
      · unfold execOp
        go_simp
      refine wpAnyP_done (by kernel_rfl) ?_ _
      clear hE hsz
      generalize hws : World.setCell _ _ _ = ws
      obtain ⟨XR, XG, XZ⟩ : Hid (R3 ws pr 9 (1 - x1) (.slice A5 n5 c5)) ∧ Hid (w5.grownBy ws (some pr)) ∧ Hid (R3 ws (w.heap.size + 1 + 1) 0 0 (.slice none 0 0)) := by rw [← hws]; exact JE.out.st12 (1 - x1) (.slice A5 n5 c5)
      clear hws r0 r1 r2 f0 f1 f2
      obtain ⟨⟨r0, r1, r2⟩, f0, f1, f2⟩ := XR.out.cells
      obtain ⟨⟨z0, z1, z2⟩, i0, i1, i2⟩ := XZ.out.cells
      go_wp2_with fail
      rw [Exit.noGoto_ret]
      refine bodyPost_ret (results_r3 rfl _ _ rfl (set3 XZ.out 9 (1 - x1) (.slice A5 n5 c5)) ⟨_, _, _, rfl⟩) rfl ?_
      rw [← HK.out]
      exact jud_end (k := 9) (ch := (1 - x1)) JE.out (by simp) (by simp [judC]) (by show ddP [_, _] = _; unfold judP; simp [oP]) XG.out
    have t0 : ((k : Int) == 0) = false := by rw [beq_eq_false_iff_ne]; omega
    have t4 : ((k : Int) == 4) = false := by rw [beq_eq_false_iff_ne]; omega
    have t5 : ((k : Int) == 5) = false := by rw [beq_eq_false_iff_ne]; omega
    have t6 : ((k : Int) == 6) = false := by rw [beq_eq_false_iff_ne]; omega
    have t9 : ((k : Int) == 9) = false := by rw [beq_eq_false_iff_ne]; omega
    go_upto_region 24 with (first
      | (go_at_call 65; (with_reducible refine (S65.out _ (JdS.below JH.out)).mono ?_); rintro e1 w4 ⟨⟨g4, c4, rfl, hge4, hr4⟩, hb4⟩; have hlt4 := JH.out.2.2.2.1.lt; have OG4 : Hid (OcG w4 (pr + 1) [⟨.slice (some ⟨g4, 0, none⟩) l.length c4, srt l, false⟩]) := OcG.cons hr4 ⟨g4, _, _, rfl, by omega⟩ OcG.nil; replace JH := Lib.hid (JH.out.up hb4); have D66 : Hid (Calls Try.prog 66 #[.slice (some ⟨w4.heap.size, 0, none⟩) 1 1] (w4.alloc (.cells #[.slice (some ⟨g4, 0, none⟩) l.length c4, .bool false] 46)) fun e w' => ∃ A n c, e = .returned (.slice A n c) ∧ JdE w w' pr ⟨x1, x2, x3, x4, x5⟩ (.slice A2 m.length cap2) k [⟨.slice (some ⟨g4, 0, none⟩) l.length c4, srt l, false⟩] A n c ∧ Below (w4.alloc (.cells #[.slice (some ⟨g4, 0, none⟩) l.length c4, .bool false] 46)).heap.size (w4.alloc (.cells #[.slice (some ⟨g4, 0, none⟩) l.length c4, .bool false] 46)) w') := dist_jd w w4 pr _ _ _ [⟨.slice (some ⟨g4, 0, none⟩) l.length c4, srt l, false⟩] _ rfl JH.out OG4.out (by simp); clear hge4 hr4 hb4 hlt4 r0 r1 r2 f0 f1 f2 c5 OG4)
      | (go_at_call 66; (with_reducible refine D66.out.mono ?_); rintro e1 w5 ⟨A5, n5, c5, rfl, hE, -⟩; have JE := Lib.hid hE; obtain ⟨⟨r0, r1, r2⟩, f0, f1, f2⟩ := hE.1.2.2.2.1.cells; clear hE D66))
    generalize hws : World.setCell _ _ _ = ws
    obtain ⟨XR, XG, XZ⟩ : Hid (R3 ws pr k (-1) (.slice A5 n5 c5)) ∧ Hid (w5.grownBy ws (some pr)) ∧ Hid (R3 ws (w.heap.size + 1 + 1) 0 0 (.slice none 0 0)) := by rw [← hws]; exact JE.out.st2 (.slice A5 n5 c5)
    clear hws r0 r1 r2 f0 f1 f2
    obtain ⟨⟨r0, r1, r2⟩, f0, f1, f2⟩ := XR.out.cells
    obtain ⟨⟨z0, z1, z2⟩, i0, i1, i2⟩ := XZ.out.cells
    go_wp2_with fail
    rw [Exit.noGoto_ret]
    refine bodyPost_ret (results_r3 rfl _ _ rfl (set3 XZ.out k (-1) (.slice A5 n5 c5)) ⟨_, _, _, rfl⟩) rfl ?_
    rw [← HK.out]
    exact jud_end (k := k) (ch := (-1)) JE.out (by simp) (by simp [judC, e5, e6, e9]) (by show ddP [_] = _; unfold judP; rw [if_neg e0, if_neg e4, if_neg e5, if_neg e6, if_neg e9]; simp [ddP, oP]) XG.out
end Go.Proofs.Ytomcpgdpjpjioaa
