/- RulesNone: the row: for every input, the law answers true and its input reads as it did. No condition. -/
import Derived.Test.YtomcpgdpjpjioaaGreatPk5
import Derived.ChangeMaps5
/- Layer 7, the law: RulesNone. -/
namespace Go.Proofs.YtomcpgdpjpjioaaGreat
open Go Go.RowKit Go.Proofs
attribute [local irreducible] J JQ JL JA JD

set_option maxRecDepth 100000 in
set_option maxHeartbeats 4000000 in
theorem None_law (c : Cd) (first power : Int) (l : List Ac) (A : Option Addr) (cap : Nat) (w : World) (hrow : Arr 8 eAc w (.slice A l.length cap) l) (hAc : ∀ p ∈ l, AcW w p) : Calls Tryz.prog 5 #[Cdv c, .int .i64 first, .int .i64 power, .slice A l.length cap] w (Back (.bool true) w) := by
 obtain ⟨kf, kt, ks, ke, kp⟩ := c
 have hrow0 := hrow
 obtain ⟨A1, cap1, e0, -, ⟨hl9, -⟩, hA⟩ := hrow
 obtain ⟨rfl, -, rfl⟩ : A = A1 ∧ True ∧ cap = cap1 := by injection e0 with e1 _ e3; exact ⟨e1, trivial, e3⟩
 clear e0
 refine J_enter (fun _ => False) (vs := [.agg #[.int .i64 kf, .int .i64 kt, .int .i64 ks, .int .i64 ke, .bool kp], .int .i64 first, .int .i64 power, .slice A l.length cap]) (k := 210) (l := [(0, .agg #[.int .i64 kf, .int .i64 kt, .int .i64 ks, .int .i64 ke, .bool kp]), (1, .int .i64 first), (2, .int .i64 power), (3, .slice A l.length cap)]) Tryz.func5 rfl rfl Tryz.ntmps5 rfl rfl (Wd.start _) ?_
 refine s2 ?_
 refine aW (oX [_, _, _, _, _]) (fun b4 hb4 => ?_)
 refine s11 ?_
 refine aP (rp_buildC (fun us => [.int .i64 0, .int .i64 0, .int .i64 0, .int .i64 0, .bool false, .bool false, .int .i64 0, .slice none 0 0, .int .i64 0, .pointer none]) rfl rfl (fun w => by kernel_rfl)) ?_
 refine aW (oX [_, _, _, _, _, _, _, _, _, _]) (fun b33 hb33 => ?_)
 refine aW (ow_sliceC (vs := [_, _]) (ty := 27) rfl rfl (by rfl) rfl rfl (fun _ => by kernel_rfl)) (fun b34 hb34 => ?_)
 refine s5 ?_
 refine kJ [(1, _), (2, _), (3, _), (4, _), (10, _)] ?_
 refine s5 ?_
 refine xL (T := Nat) (fun i => i ≤ 2) (fun i => [(1, .int .i64 first), (2, .int .i64 power), (3, .slice A l.length cap), (4, .pointer (some ⟨b4, 0, none⟩)), (10, .slice (some ⟨b34, 0, none⟩) 2 2), (11, .int .i64 (i : Nat))]) (fun i => [cellB b4 [.int .i64 kf, .int .i64 kt, .int .i64 ks, .int .i64 ke, .bool kp] 23, cellB b33 [.int .i64 0, .int .i64 0, .int .i64 0, .int .i64 0, .bool false, .bool false, .int .i64 0, .slice none 0 0, .int .i64 0, .pointer none] 68, cellB b34 [.pointer none, .pointer (some ⟨b33, 0, none⟩)] 27]) (fun i => 2 - i) 0 (by decide) ?_
 rintro i hi
 refine s5 ?_
 refine JL_dec (fun h36 => ?_) (fun h36 => ?_)
 ·refine s8 ?_
  obtain rfl | rfl : i = 0 ∨ i = 1 := by omega
  ·refine s4 ?_
   refine aV (vCell rfl rfl (by repeat constructor) rfl) ?_
   refine aCB (fun w hw => Next_nil w) ?_
   refine s10 ?_
   refine kJ [(1, _), (2, _), (3, _), (4, _), (10, _), (11, _), (14, _)] ?_
   refine s4 ?_
   refine aV (vCell rfl rfl (by repeat constructor) rfl) ?_
   refine aP (rp_buildC (fun us => [.int .i64 0, .int .i64 0, .bool false, .bool false, .int .i64 0, .slice none 0 0]) rfl rfl (fun w => by kernel_rfl)) ?_
   refine aCB (fun w hw => Throw_nil 0 0 false false 0 none 0 0 w) ?_
   refine s3 ?_
   refine aW oA (fun b15 hb15 => ?_)
   refine s5 ?_
   refine kJ [(1, _), (2, _), (3, _), (4, _), (10, _), (11, _), (14, _), (16, _)] ?_
   refine s4 ?_
   refine aV (vCell rfl rfl (by repeat constructor) rfl) ?_
   refine aCB (fun w hw => Pending_nil w) ?_
   refine s3 ?_
   refine aW oA (fun b17 hb17 => ?_)
   refine s5 ?_
   refine kJ [(1, _), (2, _), (3, _), (4, _), (10, _), (11, _), (14, _), (16, _), (18, _)] ?_
   refine s4 ?_
   refine aV (vCell rfl rfl (by repeat constructor) rfl) ?_
   refine aCB (fun w hw => Score_nil w) ?_
   refine s10 ?_
   refine kJ [(1, _), (2, _), (3, _), (4, _), (10, _), (11, _), (14, _), (16, _), (18, _), (21, _)] ?_
   refine xD [0, 1, 2, 3, 4, 5, 6, 7, 8, 9, 10, 11, 12, 13, 14, 15, 16, 17, 18, 19, 20, 21, 22, 23, 24, 25, 26, 29, 30, 31, 32, 27, 28, 33, 34, 35, 36] [18, 26, 32] ?_
   refine s2 ?_
   refine dDecF ?_ (fun h => h rfl)
   refine s3 ?_
   refine dDecF ?_ (fun h => h rfl)
   refine s4 ?_
   refine dDecF ?_ (fun h => h rfl)
   refine s4 ?_
   refine dDecF ?_ (fun h => h rfl)
   refine s5 ?_
   refine dL rfl (vCell rfl rfl (by repeat constructor) rfl) ?_
   refine dCB rfl (fun w hw => Choose_nil 0 w) ?_
   refine s1 ?_
   refine dDecF ?_ (fun h => h rfl)
   refine s5 ?_
   refine dL rfl (vCell rfl rfl (by repeat constructor) rfl) ?_
   refine s3 ?_
   refine dL rfl (vCell rfl rfl (by repeat constructor) rfl) ?_
   refine dCB rfl (fun w hw => Position_nil w) ?_
   refine s1 ?_
   refine dCB rfl (fun w hw => Thrown_nil w) ?_
   refine s2 ?_
   refine dDecF ?_ (fun h => h rfl)
   refine s7 ?_
   refine kJ [(1, _), (2, _), (3, _), (4, _), (10, _), (11, _)] ?_
   refine s5 ?_
   exact xR 1 (by decide) (by decide) (hl := ⟨rfl, rfl, rfl, rfl, rfl, rfl, trivial⟩)
  ·refine s4 ?_
   refine aV (vCell rfl rfl (by repeat constructor) rfl) ?_
   refine aCB (fun w hw => Next_un b33 0 0 0 0 false 0 none 0 0 0 none w (hw.ok (cellB b33 [.int .i64 0, .int .i64 0, .int .i64 0, .int .i64 0, .bool false, .bool false, .int .i64 0, .slice none 0 0, .int .i64 0, .pointer none] 68) (by repeat constructor)).1) ?_
   refine s10 ?_
   refine kJ [(1, _), (2, _), (3, _), (4, _), (10, _), (11, _), (14, _)] ?_
   refine s4 ?_
   refine aV (vCell rfl rfl (by repeat constructor) rfl) ?_
   refine aP (rp_buildC (fun us => [.int .i64 0, .int .i64 0, .bool false, .bool false, .int .i64 0, .slice none 0 0]) rfl rfl (fun w => by kernel_rfl)) ?_
   refine aCB (fun w hw => Throw_un 0 0 false false 0 none 0 0 b33 0 0 0 0 false 0 none 0 0 0 none w (hw.ok (cellB b33 [.int .i64 0, .int .i64 0, .int .i64 0, .int .i64 0, .bool false, .bool false, .int .i64 0, .slice none 0 0, .int .i64 0, .pointer none] 68) (by repeat constructor)).1) ?_
   refine s3 ?_
   refine aW oA (fun b15 hb15 => ?_)
   refine s5 ?_
   refine kJ [(1, _), (2, _), (3, _), (4, _), (10, _), (11, _), (14, _), (16, _)] ?_
   refine s4 ?_
   refine aV (vCell rfl rfl (by repeat constructor) rfl) ?_
   refine aCB (fun w hw => Pending_un b33 0 0 0 0 false 0 none 0 0 0 none w (hw.ok (cellB b33 [.int .i64 0, .int .i64 0, .int .i64 0, .int .i64 0, .bool false, .bool false, .int .i64 0, .slice none 0 0, .int .i64 0, .pointer none] 68) (by repeat constructor)).1) ?_
   refine s3 ?_
   refine aW oA (fun b17 hb17 => ?_)
   refine s5 ?_
   refine kJ [(1, _), (2, _), (3, _), (4, _), (10, _), (11, _), (14, _), (16, _), (18, _)] ?_
   refine s4 ?_
   refine aV (vCell rfl rfl (by repeat constructor) rfl) ?_
   refine aCB (fun w hw => Score_un b33 0 0 0 0 false 0 none 0 0 0 none w (hw.ok (cellB b33 [.int .i64 0, .int .i64 0, .int .i64 0, .int .i64 0, .bool false, .bool false, .int .i64 0, .slice none 0 0, .int .i64 0, .pointer none] 68) (by repeat constructor)).1) ?_
   refine s10 ?_
   refine kJ [(1, _), (2, _), (3, _), (4, _), (10, _), (11, _), (14, _), (16, _), (18, _), (21, _)] ?_
   refine xD [0, 1, 2, 3, 4, 5, 6, 7, 8, 9, 10, 11, 12, 13, 14, 15, 16, 17, 18, 19, 20, 21, 22, 23, 24, 25, 26, 29, 30, 31, 32, 27, 28, 33, 34, 35, 36] [18, 26, 32] ?_
   refine s2 ?_
   refine dDecF ?_ (fun h => h rfl)
   refine s3 ?_
   refine dDecF ?_ (fun h => h rfl)
   refine s4 ?_
   refine dDecF ?_ (fun h => h rfl)
   refine s4 ?_
   refine dDecF ?_ (fun h => h rfl)
   refine s5 ?_
   refine dL rfl (vCell rfl rfl (by repeat constructor) rfl) ?_
   refine dCB rfl (fun w hw => Choose_un 0 b33 0 0 0 0 false 0 none 0 0 0 none w (hw.ok (cellB b33 [.int .i64 0, .int .i64 0, .int .i64 0, .int .i64 0, .bool false, .bool false, .int .i64 0, .slice none 0 0, .int .i64 0, .pointer none] 68) (by repeat constructor)).1) ?_
   refine s1 ?_
   refine dDecF ?_ (fun h => h rfl)
   refine s5 ?_
   refine dL rfl (vCell rfl rfl (by repeat constructor) rfl) ?_
   refine s3 ?_
   refine dL rfl (vCell rfl rfl (by repeat constructor) rfl) ?_
   refine dCB rfl (fun w hw => Position_un b33 0 0 0 0 false 0 none 0 0 0 none w (hw.ok (cellB b33 [.int .i64 0, .int .i64 0, .int .i64 0, .int .i64 0, .bool false, .bool false, .int .i64 0, .slice none 0 0, .int .i64 0, .pointer none] 68) (by repeat constructor)).1) ?_
   refine s1 ?_
   refine dCB rfl (fun w hw => (Thrown_any b33 0 0 0 0 false false 0 none 0 0 0 none w (hw.ok (cellB b33 [.int .i64 0, .int .i64 0, .int .i64 0, .int .i64 0, .bool false, .bool false, .int .i64 0, .slice none 0 0, .int .i64 0, .pointer none] 68) (by repeat constructor)).1).mono (fun _ _ h => by rw [if_neg (by decide)] at h; exact h)) ?_
   refine s2 ?_
   refine dDecF ?_ (fun h => h rfl)
   refine s7 ?_
   refine kJ [(1, _), (2, _), (3, _), (4, _), (10, _), (11, _)] ?_
   refine s5 ?_
   exact xR 2 (by decide) (by decide) (hl := ⟨rfl, rfl, rfl, rfl, rfl, rfl, trivial⟩)
 ·refine s10 ?_
  by_cases hg : goodR (⟨kf, kt, ks, ke, kp⟩ : Cd) first power = 0
  ·obtain ⟨hok00, hcc⟩ := new_ok hg
   have hfr := hok00.fr
   dsimp only [newE] at hfr
   have hpw : -1 ≤ power ∧ power ≤ 1 := by
    unfold goodR at hg
    split at hg
    ·split at hg
     ·rename_i h; exact h.1
     ·cases hg
    ·cases hg
   refine kJ [(1, _), (2, _), (3, _), (4, _)] ?_
   refine s2 ?_
   refine aCB (fun w hw => far_any l A cap w (hrow0.up (EAc) hw.bel)) ?_
   refine JL_bool (fun h112 => ?_) (fun h112 => ?_)

   ·refine s11 ?_
    refine kJ [] ?_
    refine s1 ?_
    refine aCB (fun w hw => awake_any w) ?_
    refine s5 ?_
    refine JR_one rfl (rr_tmp rfl) ?_
    intro w' hw
    exact ⟨rfl, hw.bel⟩
   ·have hfar := far_no h112
    refine s4 ?_
    refine aCB (fun w hw => (refGood (⟨kf, kt, ks, ke, kp⟩ : Cd) first power w).mono (fun _ _ h => by rw [hg] at h; exact h)) ?_
    refine s1 ?_
    refine aDecF ?_ (fun h => h rfl)
    refine s7 ?_
    refine kJ [(1, _), (2, _), (3, _), (4, _)] ?_
    refine s4 ?_
    refine aW (oR (fun w hw => New_grp (⟨kf, kt, ks, ke, kp⟩ : Cd) first power w hg)) (fun t125 ht125 => ?_)
    obtain ⟨b125, e0⟩ := t125
    dsimp only at ht125 ⊢
    have hok0 : EnOk e0.pl := by rw [ht125.1]; exact hok00
    have hn0 := ht125.2
    refine s9 ?_
    refine kJ [(1, _), (2, _), (3, _), (4, _), (22, _), (23, _)] ?_
    refine s3 ?_
    refine aDecF ?_ (fun h => h rfl)
    refine s2 ?_
    refine aP (pEqlP (by kernel_rfl) rfl rfl) ?_
    refine aBoolF ?_ rfl
    refine s7 ?_
    refine kJ [(1, _), (2, _), (3, _), (4, _), (22, _)] ?_
    refine s4 ?_
    refine aW (oR (fun w hw => refNew (⟨kf, kt, ks, ke, kp⟩ : Cd) first power w hfr hpw)) (fun z0 ht137 => ?_)
    obtain ⟨hP00, hz0⟩ := ht137
    have hP0 : RfP e0.pl z0 := by rw [ht125.1]; exact hP00
    have hc0 : e0.pl.c = (⟨kf, kt, ks, ke, kp⟩ : Cd) := by rw [ht125.1]; rfl
    have hzl : z0.l.length ≤ 1000 := by rw [hP0.l]; have := hok0.l; omega
    refine aW oA (fun b24 hb24 => ?_)
    refine aW0 (wStore (cs := [_, _, _, _, _, _, _, _, _, _, _, _]) rfl rfl rfl rfl rfl rfl rfl (by repeat constructor) rfl rfl) ?_
    refine s4 ?_
    refine J_map [cellB b24 (rfuC z0) 55, grpB (endI b125 e0), rfU z0] ?_ (fun w hw => ((new_rfu hw (H1 := [cellB b24 (rfuC z0) 55, grpB (endI b125 e0)]) (by repeat constructor) hzl hz0).pick (by repeat constructor)))
    refine kJ [(3, _), (22, _), (24, _)] ?_
    refine s5 ?_
    refine xL (T := Nat × EnM × RfM) (fun q => q.1 ≤ l.length ∧ EnOk q.2.1.pl ∧ (∀ m, q.2.1.p = some m → ∀ p ∈ m.t.L, p.d.n = p.d.l.length ∧ p.d.l.length ≤ 16) ∧ RfP q.2.1.pl q.2.2 ∧ q.2.1.pl.c = (⟨kf, kt, ks, ke, kp⟩ : Cd)) (fun q => [(3, .slice A l.length cap), (22, .pointer (some ⟨b125, 0, none⟩)), (24, .pointer (some ⟨b24, 0, none⟩)), (25, .int .i64 (q.1 : Nat))]) (fun q => [cellB b24 (rfuC q.2.2) 55, grpB (endI b125 q.2.1), rfU q.2.2]) (fun q => l.length - q.1) (0, e0, z0) ⟨Nat.zero_le _, hok0, hn0, hP0, hc0⟩ ?_
    rintro ⟨k, e, z⟩ ⟨hk, hok, hn, hP, hce⟩
    dsimp only at hk hok hn hP hce ⊢
    refine s7 ?_
    refine JL_dec (fun h141 => ?_) (fun h141 => ?_)
    ·refine s7 ?_
     refine xC (T := EnM × RfM) (fun q => EnOk q.1.pl ∧ (∀ m, q.1.p = some m → ∀ p ∈ m.t.L, p.d.n = p.d.l.length ∧ p.d.l.length ≤ 16) ∧ RfP q.1.pl q.2 ∧ q.1.pl.c = (⟨kf, kt, ks, ke, kp⟩ : Cd)) (fun q => [(3, .slice A l.length cap), (22, .pointer (some ⟨b125, 0, none⟩)), (24, .pointer (some ⟨b24, 0, none⟩)), (25, .int .i64 (k : Nat))]) (fun q => [cellB b24 (rfuC q.2) 55, grpB (endI b125 q.1), rfU q.2]) ?_ ?_
     ·refine s1 ?_
      have hlt : k < l.length := by omega
      obtain ⟨bk, qx, rfl, hh⟩ := hA (by intro e; subst e; simp at hlt)
      obtain ⟨⟨xw, xi, ⟨xteam, xnn, xlate, xshort, xhow⟩, ⟨xA, xn, xk, xl⟩⟩, hx⟩ : ∃ y, l[k]'hlt = y := ⟨_, rfl⟩
      obtain ⟨hxa, hxn⟩ := hAc _ (show (⟨xw, xi, ⟨xteam, xnn, xlate, xshort, xhow⟩, ⟨xA, xn, xk, xl⟩⟩ : Ac) ∈ l by rw [← hx]; exact List.getElem_mem _)
      have hx20 := hfar.2 _ (show (⟨xw, xi, ⟨xteam, xnn, xlate, xshort, xhow⟩, ⟨xA, xn, xk, xl⟩⟩ : Ac) ∈ l by rw [← hx]; exact List.getElem_mem _)
      dsimp only at hxa hxn hx20
      subst hxn
      refine kJ [(3, _), (22, _), (24, _), (25, _)] ?_
      refine s5 ?_
      refine aV (vHold (i := 0) (v := .int .i64 xw) rfl rfl (fun h => h) hh hlt (by omega) (by rw [hx]; rfl)) ?_
      refine s1 ?_
      refine JL_dec (fun h149 => ?_) (fun h149 => ?_)
      ·refine s4 ?_
       by_cases hq : chsE e.pl xi = 0
       ·refine kJ [(3, _), (22, _), (24, _), (25, _)] ?_
        refine s6 ?_
        refine aV (vHold (i := 1) (v := .int .i64 xi) rfl rfl (fun h => h) hh hlt (by omega) (by rw [hx]; rfl)) ?_
        refine aW (oM (fun w hw => (Choose_yes b125 e xi w (hw.stL (HA := [grpB (endI b125 e)]) (by repeat constructor)) hok hn hq).mono (fun _ _ h => h.toM))) (fun t156 ht156 => ?_)
        refine s2 ?_
        refine kJ [(3, _), (22, _), (24, _), (25, _)] ?_
        refine xD [0, 1, 2, 3, 4, 5, 6, 7, 8, 9, 10] [0, 5] ?_
        refine dL rfl (vAgg [_, _, _, _, _, _, _, _, _, _, _, _] rfl rfl rfl (by repeat constructor) rfl) ?_
        refine s4 ?_
        refine dL rfl (vHold (i := 1) (v := .int .i64 xi) rfl rfl (fun h => h) hh hlt (by omega) (by rw [hx]; rfl)) ?_
        refine dW rfl (oR (fun w hw => refChs_any e.pl z xi w hP (rfu_W (hw.ok (rfU z) (by repeat constructor)).1) hok hq)) (fun t164 ht164 => ?_)
        refine s3 ?_
        refine dW0 rfl (wStore (cs := [_, _, _, _, _, _, _, _, _, _, _, _]) rfl rfl rfl rfl rfl rfl rfl (by repeat constructor) rfl rfl) ?_
        refine s1 ?_
        refine JQ_map [cellB b24 (rfuC (tookR z t164)) 55, grpB (endI b125 t156), rfU (tookR z t164)] ?_ (fun w hw => ((took_rfu hw (H1 := [cellB b24 (rfuC (tookR z t164)) 55, grpB (endI b125 t156)]) (by repeat constructor) hP.n (List.mem_of_getElem? ht164)).pick (by repeat constructor)))
        exact xE (t156, tookR z t164) ⟨by rw [ht156.1]; exact chs_ok hok hq, ht156.2, by rw [ht156.1]; exact chs_P hP hq ht164, by rw [ht156.1, chs_c]; exact hce⟩
       ·refine kJ [(3, _), (22, _), (24, _), (25, _)] ?_
        refine s6 ?_
        refine aV (vHold (i := 1) (v := .int .i64 xi) rfl rfl (fun h => h) hh hlt (by omega) (by rw [hx]; rfl)) ?_
        refine aCB (fun w hw => Choose_no b125 e xi w (EndW.of (hw.ok (grpB (endI b125 e)) (by repeat constructor)).1.1 ⟨rfl, hn⟩ hok) hok hq) ?_
        refine s2 ?_
        refine kJ [(3, _), (22, _), (24, _), (25, _)] ?_
        refine xD [0, 1, 2, 3, 4, 5, 6, 7, 8, 9, 10] [0, 5] ?_
        refine dL rfl (vAgg [_, _, _, _, _, _, _, _, _, _, _, _] rfl rfl rfl (by repeat constructor) rfl) ?_
        refine s4 ?_
        refine dL rfl (vHold (i := 1) (v := .int .i64 xi) rfl rfl (fun h => h) hh hlt (by omega) (by rw [hx]; rfl)) ?_
        refine dCB rfl (fun w hw => refChoose_no e.pl z xi w hP (rfu_W (hw.ok (rfU z) (by repeat constructor)).1) hok hq) ?_
        refine s3 ?_
        refine dW0 rfl (wStore (cs := [_, _, _, _, _, _, _, _, _, _, _, _]) rfl rfl rfl rfl rfl rfl rfl (by repeat constructor) rfl rfl) ?_
        refine s1 ?_
        exact xE (e, z) ⟨hok, hn, hP, hce⟩
      ·refine s4 ?_
       by_cases hq : thrE e.pl xl (⟨xteam, xnn, xlate, xshort, xhow⟩ : Th) = 0
       ·have htn16 : 0 ≤ e.pl.tn ∧ e.pl.tn ≤ 16 := by have h1 := hok.tn; have h2 := hok.e; omega
        refine kJ [(3, _), (22, _), (24, _), (25, _)] ?_
        refine s5 ?_
        refine aV (vHoldP (i := 2) (m := 6) (cs := [.int .i64 xteam, .int .i64 xnn, .bool xlate, .bool xshort, .int .i64 xhow, .slice xA xl.length xk]) rfl rfl (fun h => h) hh hlt rfl (by omega) (by rw [hx]; rfl)) ?_
        refine aW oA (fun b26 hb26 => ?_)
        refine s4 ?_
        refine kJ [(3, _), (22, _), (24, _), (25, _), (26, _)] ?_
        refine s1 ?_
        refine aW (ow_slice0 (k := 4) (ty := 43) rfl rfl rfl (fun _ => by kernel_rfl)) (fun b172 hb172 => ?_)
        refine s2 ?_
        refine aW (oAppG (sl := 35) ET ([] : List St) xl (fun w hw => hxa.up ET hw.bel) rfl (Nat.le_refl _) (hl := by rw [List.length_nil]; omega)) (fun t175 _ => ?_)
        obtain ⟨g175, c175⟩ := t175
        dsimp only [List.nil_append]
        refine s5 ?_
        refine kJ [(3, _), (22, _), (24, _), (25, _), (26, _)] ?_
        refine s3 ?_
        refine aW (oL [grpB (endI b125 e)] [cellB b24 (rfuC z) 55, rfU z, cellB b26 [.int .i64 xteam, .int .i64 xnn, .bool xlate, .bool xshort, .int .i64 xhow, .slice (some ⟨g175, 0, none⟩) xl.length c175] 38, ownB 43 4 (some ⟨g175, 0, none⟩) xl.length c175 (xl.flatMap eT)] (fun w hw h0 => Throw_yes b125 e xl (⟨xteam, xnn, xlate, xshort, xhow⟩ : Th) (some ⟨g175, 0, none⟩) c175 w h0.startL hok (fun W hW => Arr.of_own ET (hw.keepL (HA := [grpB (endI b125 e)]) (C := ownB 43 4 (some ⟨g175, 0, none⟩) xl.length c175 (xl.flatMap eT)) hW (by repeat constructor) rfl) (by omega)) hq)) (fun t180 ht180 => ?_)
        obtain ⟨e1, ⟨jA, jc, jL⟩⟩ := t180
        obtain ⟨hEP1, hO⟩ := ht180
        dsimp only [ocI, Ruv, List.cons_append, List.nil_append] at hEP1 hO ⊢
        have hj3 : jL.length ≤ 3 := by
         have h1 : jL.length = (outE e.pl xl (⟨xteam, xnn, xlate, xshort, xhow⟩ : Th)).length := by rw [← hO.1, List.length_map]
         rw [h1]; exact outF_len _ _ _ _
        refine s3 ?_
        refine aW oA (fun b27 hb27 => ?_)
        refine s5 ?_
        refine kJ [(3, _), (22, _), (24, _), (25, _), (26, _), (27, _)] ?_
        refine xD [0, 1, 2, 3, 4, 5, 6, 7, 8, 9, 10, 11] [0, 5] ?_
        refine dL rfl (vAgg [_, _, _, _, _, _, _, _, _, _, _, _] rfl rfl rfl (by repeat constructor) rfl) ?_
        refine s4 ?_
        refine dL rfl (vHoldP (i := 2) (m := 6) (cs := [.int .i64 xteam, .int .i64 xnn, .bool xlate, .bool xshort, .int .i64 xhow, .slice xA xl.length xk]) rfl rfl (fun h => h) hh hlt rfl (by omega) (by rw [hx]; rfl)) ?_
        refine dW rfl (oR (fun w hw => refThrow_yes e.pl z xl (⟨xteam, xnn, xlate, xshort, xhow⟩ : Th) xA xk w hP (rfu_W (hw.ok (rfU z) (by repeat constructor)).1) hok (hxa.up ET hw.bel) hq (jud_0 (by rw [hce]; exact hcc) (thr_0 hq).2.2.2 htn16))) (fun t190 ht190 => ?_)
        dsimp only [ocI, Ruv, List.cons_append, List.nil_append]
        have hl190 : t190.L.length ≤ 3 := by
         have h1 : t190.L.length = (outE e.pl xl (⟨xteam, xnn, xlate, xshort, xhow⟩ : Th)).length := by rw [← ht190.1, List.length_map]
         rw [h1]; exact outF_len _ _ _ _
        refine s4 ?_
        refine dW0 rfl (wStore (cs := [_, _, _, _, _, _, _, _, _, _, _, _]) rfl rfl rfl rfl rfl rfl rfl (by repeat constructor) rfl rfl) ?_
        refine s3 ?_
        refine kJ [(3, _), (22, _), (24, _), (25, _), (26, _), (27, _)] ?_
        refine s3 ?_
        refine aW (oM (fun w hw => spoil_any xl (some ⟨g175, 0, none⟩) c175 w (by omega) (hw.ok (ownB 43 4 (some ⟨g175, 0, none⟩) xl.length c175 (xl.flatMap eT)) (by repeat constructor)).1 (fun b hb => ((hw.ok (ownB 43 4 (some ⟨g175, 0, none⟩) xl.length c175 (xl.flatMap eT)) (by repeat constructor)).2 b hb).2))) (fun _ _ => ?_)
        refine s2 ?_
        refine kJ [(3, _), (22, _), (24, _), (25, _), (27, _)] ?_
        refine s2 ?_
        refine aW (oL [ownB 82 2 jA jL.length jc (jL.flatMap eO), grpB (jL.map rwB)] [cellB b24 (rfuC (thrM z (rulE e.pl xl (⟨xteam, xnn, xlate, xshort, xhow⟩ : Th)) (choF (⟨xteam, xnn, xlate, xshort, xhow⟩ : Th) (rulE e.pl xl (⟨xteam, xnn, xlate, xshort, xhow⟩ : Th))) t190)) 55, grpB (endI b125 e1), rfU z, ownB 82 2 t190.A t190.L.length t190.c (t190.L.flatMap eO), grpB (t190.L.map rwB)] (fun w hw h0 => spoilt_any (rulE e.pl xl (⟨xteam, xnn, xlate, xshort, xhow⟩ : Th)) (choF (⟨xteam, xnn, xlate, xshort, xhow⟩ : Th) (rulE e.pl xl (⟨xteam, xnn, xlate, xshort, xhow⟩ : Th))) jA jc jL w h0.startL hO.2 (by omega))) (fun _ _ => ?_)
        refine s1 ?_
        refine JQ_map [cellB b24 (rfuC (thrM z (rulE e.pl xl (⟨xteam, xnn, xlate, xshort, xhow⟩ : Th)) (choF (⟨xteam, xnn, xlate, xshort, xhow⟩ : Th) (rulE e.pl xl (⟨xteam, xnn, xlate, xshort, xhow⟩ : Th))) t190)) 55, grpB (endI b125 e1), rfU (thrM z (rulE e.pl xl (⟨xteam, xnn, xlate, xshort, xhow⟩ : Th)) (choF (⟨xteam, xnn, xlate, xshort, xhow⟩ : Th) (rulE e.pl xl (⟨xteam, xnn, xlate, xshort, xhow⟩ : Th))) t190)] ?_ (fun w hw => ((thr_rfu (t := t190) (e := z) hw (H1 := [cellB b24 (rfuC (thrM z (rulE e.pl xl (⟨xteam, xnn, xlate, xshort, xhow⟩ : Th)) (choF (⟨xteam, xnn, xlate, xshort, xhow⟩ : Th) (rulE e.pl xl (⟨xteam, xnn, xlate, xshort, xhow⟩ : Th))) t190)) 55, grpB (endI b125 e1)]) (by repeat constructor) ht190.2 (by omega)).pick (by repeat constructor)))
        exact xE (e1, (thrM z (rulE e.pl xl (⟨xteam, xnn, xlate, xshort, xhow⟩ : Th)) (choF (⟨xteam, xnn, xlate, xshort, xhow⟩ : Th) (rulE e.pl xl (⟨xteam, xnn, xlate, xshort, xhow⟩ : Th))) t190)) ⟨by rw [hEP1.1]; exact thr_ok hok hq, hEP1.2, by rw [hEP1.1]; exact thr_P hP ht190, by rw [hEP1.1, thr_c]; exact hce⟩
       ·refine kJ [(3, _), (22, _), (24, _), (25, _)] ?_
        refine s5 ?_
        refine aV (vHoldP (i := 2) (m := 6) (cs := [.int .i64 xteam, .int .i64 xnn, .bool xlate, .bool xshort, .int .i64 xhow, .slice xA xl.length xk]) rfl rfl (fun h => h) hh hlt rfl (by omega) (by rw [hx]; rfl)) ?_
        refine aW oA (fun b26 hb26 => ?_)
        refine s4 ?_
        refine kJ [(3, _), (22, _), (24, _), (25, _), (26, _)] ?_
        refine s1 ?_
        refine aW (ow_slice0 (k := 4) (ty := 43) rfl rfl rfl (fun _ => by kernel_rfl)) (fun b172 hb172 => ?_)
        refine s2 ?_
        refine aW (oAppG (sl := 35) ET ([] : List St) xl (fun w hw => hxa.up ET hw.bel) rfl (Nat.le_refl _) (hl := by rw [List.length_nil]; omega)) (fun t175 _ => ?_)
        obtain ⟨g175, c175⟩ := t175
        dsimp only [List.nil_append]
        refine s5 ?_
        refine kJ [(3, _), (22, _), (24, _), (25, _), (26, _)] ?_
        refine s3 ?_
        refine aCB (fun w hw => Throw_no b125 e xl (⟨xteam, xnn, xlate, xshort, xhow⟩ : Th) (some ⟨g175, 0, none⟩) c175 w (EndW.of (hw.ok (grpB (endI b125 e)) (by repeat constructor)).1.1 ⟨rfl, hn⟩ hok) hok (own_arr (A := some ⟨g175, 0, none⟩) (c := c175) (ty := 43) ET hw (by repeat constructor) (by omega)) hq) ?_
        refine s3 ?_
        refine aW oA (fun b27 hb27 => ?_)
        refine s5 ?_
        refine kJ [(3, _), (22, _), (24, _), (25, _), (26, _), (27, _)] ?_
        refine xD [0, 1, 2, 3, 4, 5, 6, 7, 8, 9, 10, 11] [0, 5] ?_
        refine dL rfl (vAgg [_, _, _, _, _, _, _, _, _, _, _, _] rfl rfl rfl (by repeat constructor) rfl) ?_
        refine s4 ?_
        refine dL rfl (vHoldP (i := 2) (m := 6) (cs := [.int .i64 xteam, .int .i64 xnn, .bool xlate, .bool xshort, .int .i64 xhow, .slice xA xl.length xk]) rfl rfl (fun h => h) hh hlt rfl (by omega) (by rw [hx]; rfl)) ?_
        refine dCB rfl (fun w hw => refThrow_no e.pl z xl (⟨xteam, xnn, xlate, xshort, xhow⟩ : Th) xA xk w hP (rfu_W (hw.ok (rfU z) (by repeat constructor)).1) hok (hxa.up ET hw.bel) hq) ?_
        refine s4 ?_
        refine dW0 rfl (wStore (cs := [_, _, _, _, _, _, _, _, _, _, _, _]) rfl rfl rfl rfl rfl rfl rfl (by repeat constructor) rfl rfl) ?_
        refine s3 ?_
        refine kJ [(3, _), (22, _), (24, _), (25, _), (26, _), (27, _)] ?_
        refine s3 ?_
        refine aW (oM (fun w hw => spoil_any xl (some ⟨g175, 0, none⟩) c175 w (by omega) (hw.ok (ownB 43 4 (some ⟨g175, 0, none⟩) xl.length c175 (xl.flatMap eT)) (by repeat constructor)).1 (fun b hb => ((hw.ok (ownB 43 4 (some ⟨g175, 0, none⟩) xl.length c175 (xl.flatMap eT)) (by repeat constructor)).2 b hb).2))) (fun _ _ => ?_)
        refine s2 ?_
        refine J_own0 82 2 ?_
        refine J_grp0 ?_
        refine kJ [(3, _), (22, _), (24, _), (25, _), (27, _)] ?_
        refine s2 ?_
        refine aW (oL [ownB 82 2 none 0 0 [], grpB []] [cellB b24 (rfuC z) 55, grpB (endI b125 e), rfU z] (fun w hw h0 => spoilt_any 0 0 none 0 [] w h0.startL (fun p hp => by cases hp) (by decide))) (fun _ _ => ?_)
        refine s1 ?_
        exact xE (e, z) ⟨hok, hn, hP, hce⟩
     ·rintro ⟨e3, z3⟩ ⟨hok3, hn3, hP3, hce3⟩
      dsimp only at hok3 hn3 hP3 hce3 ⊢
      refine s3 ?_
      refine aS (oS (fun w hw => Position_any b125 e3.c.f e3.c.t e3.c.s e3.c.e e3.c.p e3.fr e3.sA e3.l e3.sk e3.tn (pdA e3.p) w (EndW.of (hw.ok (grpB (endI b125 e3)) (by repeat constructor)).1.1 ⟨rfl, hn3⟩ hok3).cell (EndW.of (hw.ok (grpB (endI b125 e3)) (by repeat constructor)).1.1 ⟨rfl, hn3⟩ hok3).row (by have := hok3.l; dsimp only [EnM.pl] at this; omega))) (fun A200 c200 => ?_)
      refine aW (oM (fun w hw => spoil_any e3.l A200 c200 w (by have := hok3.l; dsimp only [EnM.pl] at this; omega) (hw.ok (ownB 43 4 A200 e3.l.length c200 (e3.l.flatMap eT)) (by repeat constructor)).1 (fun b hb => ((hw.ok (ownB 43 4 A200 e3.l.length c200 (e3.l.flatMap eT)) (by repeat constructor)).2 b hb).2))) (fun _ _ => ?_)
      refine s3 ?_
      rcases hp : e3.p with _ | pm
      ·refine s2 ?_
       refine aCB (fun w hw => (Pending_any b125 e3 w (EndW.of (hw.ok (grpB (endI b125 e3)) (by repeat constructor)).1.1 ⟨rfl, hn3⟩ hok3) hok3 hn3).mono (fun _ _ h => by unfold RetPe at h; rw [hp] at h; exact h)) ?_
       refine s3 ?_
       refine aW oA (fun b29 hb29 => ?_)
       refine s5 ?_
       refine J_own0 82 2 ?_
       refine J_grp0 ?_
       refine kJ [(3, _), (22, _), (24, _), (25, _), (29, _)] ?_
       refine s2 ?_
       refine aW (oL [ownB 82 2 none 0 0 [], grpB []] [cellB b24 (rfuC z3) 55, grpB (endI b125 e3), rfU z3] (fun w hw h0 => spoilt_any 0 0 none 0 [] w h0.startL (fun p hp => by cases hp) (by decide))) (fun _ _ => ?_)
       refine s5 ?_
       refine aV (vAgg [_, _, _, _, _, _, _, _, _, _, _, _] rfl rfl rfl (by repeat constructor) rfl) ?_
       refine aCB (fun w hw => alike_any b125 e3 z3 w (hw.ok (grpB (endI b125 e3)) (by repeat constructor)).1.1 hok3 hn3 hP3 (hw.ok (rfU z3) (by repeat constructor)).1) ?_
       refine s7 ?_
       refine kJ [(3, _), (22, _), (24, _), (25, _)] ?_
       refine s5 ?_
       exact xR (k + 1, e3, z3) ⟨by dsimp only; omega, hok3, hn3, hP3, hce3⟩ (by dsimp only; omega) (hl := ⟨rfl, rfl, rfl, (congrArg some (by go_num)), trivial⟩)
      ·refine s2 ?_
       refine aW (oR (fun w hw => (Pending_any b125 e3 w (EndW.of (hw.ok (grpB (endI b125 e3)) (by repeat constructor)).1.1 ⟨rfl, hn3⟩ hok3) hok3 hn3).mono (fun _ _ h => by unfold RetPe at h; rw [hp] at h; exact h))) (fun t204 ht204 => ?_)
       dsimp only [ocI, Ruv, List.cons_append, List.nil_append]
       have hl204 : t204.L.length ≤ 3 := by
        have h1 : t204.L.length = (pm.t.L.map oP).length := by rw [← ht204.1, List.length_map]
        have h2 := (hok3.p (pm.r, pm.h, pm.t.L.map oP) (by unfold EnM.pl; rw [hp]; rfl)).2.1.2
        dsimp only at h2
        omega
       refine s3 ?_
       refine aW oA (fun b29 hb29 => ?_)
       refine s5 ?_
       refine kJ [(3, _), (22, _), (24, _), (25, _), (29, _)] ?_
       refine s2 ?_
       refine aW (oL [ownB 82 2 t204.A t204.L.length t204.c (t204.L.flatMap eO), grpB (t204.L.map rwB)] [cellB b24 (rfuC z3) 55, grpB (endI b125 e3), rfU z3] (fun w hw h0 => spoilt_any pm.r pm.h t204.A t204.c t204.L w h0.startL ht204.2 (by omega))) (fun _ _ => ?_)
       refine s5 ?_
       refine aV (vAgg [_, _, _, _, _, _, _, _, _, _, _, _] rfl rfl rfl (by repeat constructor) rfl) ?_
       refine aCB (fun w hw => alike_any b125 e3 z3 w (hw.ok (grpB (endI b125 e3)) (by repeat constructor)).1.1 hok3 hn3 hP3 (hw.ok (rfU z3) (by repeat constructor)).1) ?_
       refine s7 ?_
       refine kJ [(3, _), (22, _), (24, _), (25, _)] ?_
       refine s5 ?_
       exact xR (k + 1, e3, z3) ⟨by dsimp only; omega, hok3, hn3, hP3, hce3⟩ (by dsimp only; omega) (hl := ⟨rfl, rfl, rfl, (congrArg some (by go_num)), trivial⟩)
    ·refine s9 ?_
     refine kJ [] ?_
     refine s1 ?_
     refine aCB (fun w hw => awake_any w) ?_
     refine s4 ?_
     refine JR_one rfl (rr_tmp rfl) ?_
     intro w' hw
     exact ⟨rfl, hw.bel⟩
  ·refine kJ [(1, _), (2, _), (3, _), (4, _)] ?_
   refine s2 ?_
   refine aCB (fun w hw => far_any l A cap w (hrow0.up (EAc) hw.bel)) ?_
   refine JL_bool (fun h112 => ?_) (fun h112 => ?_)

   ·refine s11 ?_
    refine kJ [] ?_
    refine s1 ?_
    refine aCB (fun w hw => awake_any w) ?_
    refine s5 ?_
    refine JR_one rfl (rr_tmp rfl) ?_
    intro w' hw
    exact ⟨rfl, hw.bel⟩
   ·have hfar := far_no h112
    refine s4 ?_
    refine aCB (fun w hw => refGood (⟨kf, kt, ks, ke, kp⟩ : Cd) first power w) ?_
    refine s1 ?_
    refine aDecT ?_ hg
    refine s5 ?_
    refine kJ [] ?_
    refine s1 ?_
    refine aCB (fun w hw => awake_any w) ?_
    refine s5 ?_
    refine JR_one rfl (rr_tmp rfl) ?_
    intro w' hw
    exact ⟨rfl, hw.bel⟩
end Go.Proofs.YtomcpgdpjpjioaaGreat
/- RulesNone: the row: for every input, the law answers true and its input reads as it did. No condition. -/
namespace Go.Proofs.YtomcpgdpjpjioaaGreat
open Go.ChangeShapes Go.WideShapes Go.ChangeAt Go.RowKit Go.ChangeMaps

set_option maxRecDepth 100000 in
theorem RulesNone_lifted (os : Os) (started : os.Started) (H : Type) (enc : TypeId × Value → H) :
    ReturnsInHanded {} Tryz.checked os 5 .any (Rows.rulesNoneSpec.pre6 enc Tryz.prog Tryz.f5 Rows.rulesNoneRow.domain false) (Rows.rulesNoneSpec.post enc Tryz.prog Tryz.f5 false true false false) := by
  refine returnsInHanded_of_change (C := Tryz.checked) (show ownKnob Tryz.prog.godebug = none by kernel_rfl) started (by kernel_rfl) Tryz.func5
    (ChangeSpec.witness6 (enc := enc) (C := Tryz.checked) false ⟨#[], #[.agg #[.int .i64 0, .int .i64 0, .int .i64 0, .int .i64 0, .bool false], .int .i64 0, .int .i64 0, .slice none 0 0], []⟩ 8 (by kernel_rfl) (by kernel_rfl) (by kernel_rfl) (by kernel_rfl)) ?_
  intro W base args ds gs before hval0 hW hcnd _
  have hval : ∀ (j : Nat) t v, Tryz.f5.params[j]? = some t → args[j]? = some v → Value.okWide Tryz.prog W .any base t v := hval0
  have hW' := hW
  obtain ⟨p, q, hA0, hV, rfl, _, _⟩ := hW
  have hA : DataW.TrodAll enc Tryz.prog W 0 (fun _ => true) true Tryz.f5.params.toList args.toList ds p := hA0
  rw [Tryz.params5] at hA hval
  obtain ⟨v0, vs0, d0, ds0, p0, q0, hargs, rfl, rfl, h0, r0⟩ := trodAll_cons hA
  obtain ⟨v1, vs1, d1, ds1, p1, q1, rfl, rfl, rfl, h1, r1⟩ := trodAll_cons r0
  obtain ⟨v2, vs2, d2, ds2, p2, q2, rfl, rfl, rfl, h2, r2⟩ := trodAll_cons r1
  obtain ⟨v3, vs3, d3, ds3, p3, q3, rfl, rfl, rfl, h3, r3⟩ := trodAll_cons r2
  obtain ⟨rfl, rfl, rfl⟩ := trodAll_nil r3
  obtain rfl : args = #[v0, v1, v2, v3] := by cases args; simp_all
  obtain ⟨rfl, rfl⟩ := trodVars_none hV
  obtain ⟨a0, rfl, again0⟩ := open_code (hval 0 23 v0 rfl rfl) h0
  obtain ⟨a1, rfl, again1⟩ := open_num (hval 1 3 v1 rfl rfl) h1
  obtain ⟨a2, rfl, again2⟩ := open_num (hval 2 3 v2 rfl rfl) h2
  obtain ⟨A3, l3, k3, rfl, st3, x3, again3⟩ := open_acts (hval 3 52 v3 rfl rfl) h3
  clear hA0 hval0
  simp only [List.append_nil] at hW'
  refine (None_law a0 a1 a2 l3 A3 k3 W st3 x3).mono fun e W' ⟨he, hb⟩ => ?_
  subst he
  exact ⟨_, rfl, _, _, _, [], _, [], hW', trodAll_mk1 (shut_bool Tryz.underlying4 _), (trodAll_cons_mk (again0 W' hb _ (fun q hq => by simpa using hW'.lt q (by simp [hq]))) (trodAll_cons_mk (again1 W' hb _ (fun q hq => by simpa using hW'.lt q (by simp [hq]))) (trodAll_cons_mk (again2 W' hb _ (fun q hq => by simpa using hW'.lt q (by simp [hq]))) (trodAll_cons_mk (again3 W' hb _ (fun q hq => by simpa using hW'.lt q (by simp [hq]))) trodAll_mk0)))), rfl, hb.frame _, fun h => by cases h⟩

theorem RulesNone_holds : Rows.RulesNoneSaid :=
  OpenClaim.holds_of_wide 5 Tryz.f5 rfl rfl rfl rfl rfl rfl rfl ⟨rfl, rfl, rfl, rfl, rfl⟩ rfl rfl rfl rfl rfl (by kernel_rfl) Tryz.func5 (by kernel_rfl)
    (of_decide_eq_true (by kernel_rfl)) (by unfold Func.isWrapper; first | (rw [if_pos (by decide +kernel)]; kernel_rfl) | (rw [if_neg (by decide +kernel)]; exact ⟨rfl, rfl⟩))
    (fun os started H enc _ => RulesNone_lifted os started H enc)
end Go.Proofs.YtomcpgdpjpjioaaGreat
