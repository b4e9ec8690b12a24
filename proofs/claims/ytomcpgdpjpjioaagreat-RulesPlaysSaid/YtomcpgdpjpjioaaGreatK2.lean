/- RulesPlays: the row: for every input, the law answers true and its input reads as it did. No condition. -/
import Derived.Test.YtomcpgdpjpjioaaGreatPk5
import Derived.ChangeMaps5
/- Layer 7, the law: RulesPlays. -/
namespace Go.Proofs.YtomcpgdpjpjioaaGreat
open Go Go.RowKit Go.Proofs
attribute [local irreducible] J JQ JL JA JD

set_option maxRecDepth 100000 in
set_option maxHeartbeats 4000000 in
theorem Plays_law (c : Cd) (first power : Int) (l : List Ac) (A : Option Addr) (cap : Nat) (w : World) (hrow : Arr 8 eAc w (.slice A l.length cap) l) (hAc : ∀ p ∈ l, AcW w p) : Calls Tryz.prog 4 #[Cdv c, .int .i64 first, .int .i64 power, .slice A l.length cap] w (Back (.bool true) w) := by
 obtain ⟨kf, kt, ks, ke, kp⟩ := c
 have hrow0 := hrow
 obtain ⟨A1, cap1, e0, -, ⟨hl9, -⟩, hA⟩ := hrow
 obtain ⟨rfl, -, rfl⟩ : A = A1 ∧ True ∧ cap = cap1 := by injection e0 with e1 _ e3; exact ⟨e1, trivial, e3⟩
 clear e0
 refine J_enter (fun _ => False) (vs := [.agg #[.int .i64 kf, .int .i64 kt, .int .i64 ks, .int .i64 ke, .bool kp], .int .i64 first, .int .i64 power, .slice A l.length cap]) (k := 122) (l := [(0, .agg #[.int .i64 kf, .int .i64 kt, .int .i64 ks, .int .i64 ke, .bool kp]), (1, .int .i64 first), (2, .int .i64 power), (3, .slice A l.length cap)]) Tryz.func4 rfl rfl Tryz.ntmps4 rfl rfl (Wd.start _) ?_
 refine s2 ?_
 refine aW (oX [_, _, _, _, _]) (fun b4 hb4 => ?_)
 refine s7 ?_
 refine aCB (fun w hw => far_any l A cap w (hrow0.up (EAc) hw.bel)) ?_
 refine JL_bool (fun h23 => ?_) (fun h23 => ?_)

 ·refine s4 ?_
  refine kJ [] ?_
  refine s1 ?_
  refine aCB (fun w hw => awake_any w) ?_
  refine s5 ?_
  refine JR_one rfl (rr_tmp rfl) ?_
  intro w' hw
  exact ⟨rfl, hw.bel⟩
 ·have hfar := far_no h23
  refine s6 ?_
  by_cases hg : goodR (⟨kf, kt, ks, ke, kp⟩ : Cd) first power = 0
  ·obtain ⟨hok00, hcc⟩ := new_ok hg
   have hfr := hok00.fr
   dsimp only [newE] at hfr
   have hpw : -1 ≤ power ∧ power ≤ 1 := by
    unfold goodR at hg
    split at hg
    ·split at hg
     ·rename_i h; exact h.1
     ·cases hg
    ·cases hg
   refine kJ [(1, _), (2, _), (3, _), (4, _)] ?_
   refine s4 ?_
   refine aW (oR (fun w hw => New_grp (⟨kf, kt, ks, ke, kp⟩ : Cd) first power w hg)) (fun t25 ht25 => ?_)
   obtain ⟨b25, e0⟩ := t25
   dsimp only at ht25 ⊢
   have hok0 : EnOk e0.pl := by rw [ht25.1]; exact hok00
   have hn0 := ht25.2
   refine s8 ?_
   refine kJ [(1, _), (2, _), (3, _), (4, _), (9, _), (10, _)] ?_
   refine s4 ?_
   refine aCB (fun w hw => (refGood (⟨kf, kt, ks, ke, kp⟩ : Cd) first power w).mono (fun _ _ h => by rw [hg] at h; exact h)) ?_
   refine s5 ?_
   refine kJ [(1, _), (2, _), (3, _), (4, _), (9, _), (10, _), (11, _)] ?_
   refine s4 ?_
   refine aDecF ?_ (fun h => h rfl)
   refine s2 ?_
   refine aP (pNeqP (by kernel_rfl) rfl rfl) ?_
   refine aBoolT ?_ rfl
   refine s2 ?_
   refine aDecT ?_ rfl
   refine aP (pNeqB rfl rfl rfl) ?_
   refine aDecF ?_ (fun h => h rfl)
   refine s8 ?_
   refine kJ [(1, _), (2, _), (3, _), (4, _), (9, _), (11, _)] ?_
   refine s3 ?_
   refine aDecF ?_ (fun h => h rfl)
   refine s10 ?_
   refine aW (oR (fun w hw => refNew (⟨kf, kt, ks, ke, kp⟩ : Cd) first power w hfr hpw)) (fun z0 ht52 => ?_)
   obtain ⟨hP00, hz0⟩ := ht52
   have hP0 : RfP e0.pl z0 := by rw [ht25.1]; exact hP00
   have hc0 : e0.pl.c = (⟨kf, kt, ks, ke, kp⟩ : Cd) := by rw [ht25.1]; rfl
   have hzl : z0.l.length ≤ 1000 := by rw [hP0.l]; have := hok0.l; omega
   refine aW oA (fun b12 hb12 => ?_)
   refine aW0 (wStore (cs := [_, _, _, _, _, _, _, _, _, _, _, _]) rfl rfl rfl rfl rfl rfl rfl (by repeat constructor) rfl rfl) ?_
   refine s4 ?_
   refine J_map [cellB b12 (rfuC z0) 55, grpB (endI b25 e0), rfU z0] ?_ (fun w hw => ((new_rfu hw (H1 := [cellB b12 (rfuC z0) 55, grpB (endI b25 e0)]) (by repeat constructor) hzl hz0).pick (by repeat constructor)))
   refine kJ [(3, _), (9, _), (12, _)] ?_
   refine s2 ?_
   refine aV (vAgg [_, _, _, _, _, _, _, _, _, _, _, _] rfl rfl rfl (by repeat constructor) rfl) ?_
   refine aCB (fun w hw => alike_any b25 e0 z0 w (hw.ok (grpB (endI b25 e0)) (by repeat constructor)).1.1 hok0 hn0 hP0 (hw.ok (rfU z0) (by repeat constructor)).1) ?_
   refine s8 ?_
   refine kJ [(3, _), (9, _), (12, _)] ?_
   refine s5 ?_
   refine xL (T := Nat × EnM × RfM) (fun q => q.1 ≤ l.length ∧ EnOk q.2.1.pl ∧ (∀ m, q.2.1.p = some m → ∀ p ∈ m.t.L, p.d.n = p.d.l.length ∧ p.d.l.length ≤ 16) ∧ RfP q.2.1.pl q.2.2 ∧ q.2.1.pl.c = (⟨kf, kt, ks, ke, kp⟩ : Cd)) (fun q => [(3, .slice A l.length cap), (9, .pointer (some ⟨b25, 0, none⟩)), (12, .pointer (some ⟨b12, 0, none⟩)), (13, .int .i64 (q.1 : Nat))]) (fun q => [cellB b12 (rfuC q.2.2) 55, grpB (endI b25 q.2.1), rfU q.2.2]) (fun q => l.length - q.1) (0, e0, z0) ⟨Nat.zero_le _, hok0, hn0, hP0, hc0⟩ ?_
   rintro ⟨k, e, z⟩ ⟨hk, hok, hn, hP, hce⟩
   dsimp only at hk hok hn hP hce ⊢
   refine s7 ?_
   refine JL_dec (fun h60 => ?_) (fun h60 => ?_)
   ·refine s7 ?_
    refine xC (T := EnM × RfM) (fun q => EnOk q.1.pl ∧ (∀ m, q.1.p = some m → ∀ p ∈ m.t.L, p.d.n = p.d.l.length ∧ p.d.l.length ≤ 16) ∧ RfP q.1.pl q.2 ∧ q.1.pl.c = (⟨kf, kt, ks, ke, kp⟩ : Cd)) (fun q => [(3, .slice A l.length cap), (9, .pointer (some ⟨b25, 0, none⟩)), (12, .pointer (some ⟨b12, 0, none⟩)), (13, .int .i64 (k : Nat))]) (fun q => [cellB b12 (rfuC q.2) 55, grpB (endI b25 q.1), rfU q.2]) ?_ ?_
    ·refine s1 ?_
     have hlt : k < l.length := by omega
     obtain ⟨bk, qx, rfl, hh⟩ := hA (by intro e; subst e; simp at hlt)
     obtain ⟨⟨xw, xi, ⟨xteam, xnn, xlate, xshort, xhow⟩, ⟨xA, xn, xk, xl⟩⟩, hx⟩ : ∃ y, l[k]'hlt = y := ⟨_, rfl⟩
     obtain ⟨hxa, hxn⟩ := hAc _ (show (⟨xw, xi, ⟨xteam, xnn, xlate, xshort, xhow⟩, ⟨xA, xn, xk, xl⟩⟩ : Ac) ∈ l by rw [← hx]; exact List.getElem_mem _)
     have hx20 := hfar.2 _ (show (⟨xw, xi, ⟨xteam, xnn, xlate, xshort, xhow⟩, ⟨xA, xn, xk, xl⟩⟩ : Ac) ∈ l by rw [← hx]; exact List.getElem_mem _)
     dsimp only at hxa hxn hx20
     subst hxn
     refine kJ [(3, _), (9, _), (12, _), (13, _)] ?_
     refine s5 ?_
     refine aV (vHold (i := 0) (v := .int .i64 xw) rfl rfl (fun h => h) hh hlt (by omega) (by rw [hx]; rfl)) ?_
     refine s1 ?_
     refine JL_dec (fun h68 => ?_) (fun h68 => ?_)
     ·refine s4 ?_
      by_cases hq : chsE e.pl xi = 0
      ·refine kJ [(3, _), (9, _), (12, _), (13, _)] ?_
       refine s6 ?_
       refine aV (vHold (i := 1) (v := .int .i64 xi) rfl rfl (fun h => h) hh hlt (by omega) (by rw [hx]; rfl)) ?_
       refine aW (oM (fun w hw => (Choose_yes b25 e xi w (hw.stL (HA := [grpB (endI b25 e)]) (by repeat constructor)) hok hn hq).mono (fun _ _ h => h.toM))) (fun t75 ht75 => ?_)
       refine s4 ?_
       refine kJ [(3, _), (9, _), (12, _), (13, _), (14, _)] ?_
       refine xDx [0, 1, 2, 3, 4, 5] [] [0, 5] [cellB b12 (rfuC z) 55] ?_
       refine dX rfl (vAgg [_, _, _, _, _, _, _, _, _, _, _, _] rfl rfl rfl (by repeat constructor) rfl) ?_
       refine s4 ?_
       refine dX rfl (vHold (i := 1) (v := .int .i64 xi) rfl rfl (fun h => h) hh hlt (by omega) (by rw [hx]; rfl)) ?_
       refine dPair (i := 6) (j := 10) (by kernel_rfl) ?_ ?_
       ·refine St1_mk rfl wAny (oR (fun w hw => refChs_any e.pl z xi w hP (rfu_W (hw.ok (rfU z) (by repeat constructor)).1) hok hq)) (by first | exact trivial | exact ⟨by kernel_rfl, .inl (rfl : waitsB _ [] _ = true)⟩ | exact ⟨by kernel_rfl, .inr ⟨rfl, by repeat constructor⟩⟩) (fun t83 ht83 => ?_)
        refine dOA [7, 8, 9, 10, 11, 12] ?_
        refine s3 ?_
        refine dW rfl oA (fun b15 hb15 => ?_)
        refine dW0 rfl (wStore (cs := [_, _, _, _, _, _, _, _, _, _, _, _]) rfl rfl rfl rfl rfl rfl rfl (by repeat constructor) rfl rfl) ?_
        refine s4 ?_
        refine kJ [(3, _), (9, _), (12, _), (13, _), (14, _), (15, _), (16, _)] ?_
        refine s1 ?_
        refine aV (vAgg [_, _, _, _, _, _, _, _, _, _, _, _] rfl rfl rfl (by repeat constructor) rfl) ?_
        refine aW0 (wStore (cs := [_, _, _, _, _, _, _, _, _, _, _, _]) rfl rfl rfl rfl rfl rfl rfl (by repeat constructor) rfl rfl) ?_
        refine s7 ?_
        refine aDecF ?_ (fun h => h rfl)
        refine s4 ?_
        refine JQ_map [cellB b12 (rfuC (tookR z t83)) 55, grpB (endI b25 t75), rfU (tookR z t83)] ?_ (fun w hw => ((took_rfu hw (H1 := [cellB b12 (rfuC (tookR z t83)) 55, grpB (endI b25 t75)]) (by repeat constructor) hP.n (List.mem_of_getElem? ht83)).pick (by repeat constructor)))
        exact xE (t75, tookR z t83) ⟨by rw [ht75.1]; exact chs_ok hok hq, ht75.2, by rw [ht75.1]; exact chs_P hP hq ht83, by rw [ht75.1, chs_c]; exact hce⟩
       ·refine St1_mk rfl wAny oA (by first | exact trivial | exact ⟨by kernel_rfl, .inl (rfl : waitsB _ [] _ = true)⟩ | exact ⟨by kernel_rfl, .inr ⟨rfl, by repeat constructor⟩⟩) (fun b15 hb15 => ?_)
        refine dOA [6, 7, 8, 9, 11, 12] ?_
        refine dW rfl (oR (fun w hw => refChs_any e.pl z xi w hP (rfu_W (hw.ok (rfU z) (by repeat constructor)).1) hok hq)) (fun t83 ht83 => ?_)
        refine s3 ?_
        refine dW0 rfl (wStore (cs := [_, _, _, _, _, _, _, _, _, _, _, _]) rfl rfl rfl rfl rfl rfl rfl (by repeat constructor) rfl rfl) ?_
        refine s4 ?_
        refine kJ [(3, _), (9, _), (12, _), (13, _), (14, _), (15, _), (16, _)] ?_
        refine s1 ?_
        refine aV (vAgg [_, _, _, _, _, _, _, _, _, _, _, _] rfl rfl rfl (by repeat constructor) rfl) ?_
        refine aW0 (wStore (cs := [_, _, _, _, _, _, _, _, _, _, _, _]) rfl rfl rfl rfl rfl rfl rfl (by repeat constructor) rfl rfl) ?_
        refine s7 ?_
        refine aDecF ?_ (fun h => h rfl)
        refine s4 ?_
        refine JQ_map [cellB b12 (rfuC (tookR z t83)) 55, grpB (endI b25 t75), rfU (tookR z t83)] ?_ (fun w hw => ((took_rfu hw (H1 := [cellB b12 (rfuC (tookR z t83)) 55, grpB (endI b25 t75)]) (by repeat constructor) hP.n (List.mem_of_getElem? ht83)).pick (by repeat constructor)))
        exact xE (t75, tookR z t83) ⟨by rw [ht75.1]; exact chs_ok hok hq, ht75.2, by rw [ht75.1]; exact chs_P hP hq ht83, by rw [ht75.1, chs_c]; exact hce⟩
      ·refine kJ [(3, _), (9, _), (12, _), (13, _)] ?_
       refine s6 ?_
       refine aV (vHold (i := 1) (v := .int .i64 xi) rfl rfl (fun h => h) hh hlt (by omega) (by rw [hx]; rfl)) ?_
       refine aCB (fun w hw => Choose_no b25 e xi w (EndW.of (hw.ok (grpB (endI b25 e)) (by repeat constructor)).1.1 ⟨rfl, hn⟩ hok) hok hq) ?_
       refine s4 ?_
       refine kJ [(3, _), (9, _), (12, _), (13, _), (14, _)] ?_
       refine xDx [0, 1, 2, 3, 4, 5] [] [0, 5] [cellB b12 (rfuC z) 55] ?_
       refine dX rfl (vAgg [_, _, _, _, _, _, _, _, _, _, _, _] rfl rfl rfl (by repeat constructor) rfl) ?_
       refine s4 ?_
       refine dX rfl (vHold (i := 1) (v := .int .i64 xi) rfl rfl (fun h => h) hh hlt (by omega) (by rw [hx]; rfl)) ?_
       refine dPair (i := 6) (j := 10) (by kernel_rfl) ?_ ?_
       ·refine St1_mk rfl wAny (oB (fun w hw => refChoose_no e.pl z xi w hP (rfu_W (hw.ok (rfU z) (by repeat constructor)).1) hok hq)) (by first | exact trivial | exact ⟨by kernel_rfl, .inl (rfl : waitsB _ [] _ = true)⟩ | exact ⟨by kernel_rfl, .inr ⟨rfl, by repeat constructor⟩⟩) (fun _ _ => ?_)
        refine dOA [7, 8, 9, 10, 11, 12] ?_
        refine s3 ?_
        refine dW rfl oA (fun b15 hb15 => ?_)
        refine dW0 rfl (wStore (cs := [_, _, _, _, _, _, _, _, _, _, _, _]) rfl rfl rfl rfl rfl rfl rfl (by repeat constructor) rfl rfl) ?_
        refine s4 ?_
        refine kJ [(3, _), (9, _), (12, _), (13, _), (14, _), (15, _), (16, _)] ?_
        refine s1 ?_
        refine aV (vAgg [_, _, _, _, _, _, _, _, _, _, _, _] rfl rfl rfl (by repeat constructor) rfl) ?_
        refine aW0 (wStore (cs := [_, _, _, _, _, _, _, _, _, _, _, _]) rfl rfl rfl rfl rfl rfl rfl (by repeat constructor) rfl rfl) ?_
        refine s7 ?_
        refine aDecF ?_ (fun h => h rfl)
        refine s4 ?_
        exact xE (e, z) ⟨hok, hn, hP, hce⟩
       ·refine St1_mk rfl wAny oA (by first | exact trivial | exact ⟨by kernel_rfl, .inl (rfl : waitsB _ [] _ = true)⟩ | exact ⟨by kernel_rfl, .inr ⟨rfl, by repeat constructor⟩⟩) (fun b15 hb15 => ?_)
        refine dOA [6, 7, 8, 9, 11, 12] ?_
        refine dCB rfl (fun w hw => refChoose_no e.pl z xi w hP (rfu_W (hw.ok (rfU z) (by repeat constructor)).1) hok hq) ?_
        refine s3 ?_
        refine dW0 rfl (wStore (cs := [_, _, _, _, _, _, _, _, _, _, _, _]) rfl rfl rfl rfl rfl rfl rfl (by repeat constructor) rfl rfl) ?_
        refine s4 ?_
        refine kJ [(3, _), (9, _), (12, _), (13, _), (14, _), (15, _), (16, _)] ?_
        refine s1 ?_
        refine aV (vAgg [_, _, _, _, _, _, _, _, _, _, _, _] rfl rfl rfl (by repeat constructor) rfl) ?_
        refine aW0 (wStore (cs := [_, _, _, _, _, _, _, _, _, _, _, _]) rfl rfl rfl rfl rfl rfl rfl (by repeat constructor) rfl rfl) ?_
        refine s7 ?_
        refine aDecF ?_ (fun h => h rfl)
        refine s4 ?_
        exact xE (e, z) ⟨hok, hn, hP, hce⟩
     ·refine s4 ?_
      by_cases hq : thrE e.pl xl (⟨xteam, xnn, xlate, xshort, xhow⟩ : Th) = 0
      ·have htn16 : 0 ≤ e.pl.tn ∧ e.pl.tn ≤ 16 := by have h1 := hok.tn; have h2 := hok.e; omega
       refine kJ [(3, _), (9, _), (12, _), (13, _)] ?_
       refine s6 ?_
       refine aV (vHoldP (i := 2) (m := 6) (cs := [.int .i64 xteam, .int .i64 xnn, .bool xlate, .bool xshort, .int .i64 xhow, .slice xA xl.length xk]) rfl rfl (fun h => h) hh hlt rfl (by omega) (by rw [hx]; rfl)) ?_
       refine aW (oL [grpB (endI b25 e)] [cellB b12 (rfuC z) 55, rfU z] (fun w hw h0 => Throw_yes b25 e xl (⟨xteam, xnn, xlate, xshort, xhow⟩ : Th) xA xk w h0.startL hok (fun W hW => hxa.up ET (hw.belL (HA := [grpB (endI b25 e)]) (by repeat constructor) rfl hW)) hq)) (fun t97 ht97 => ?_)
       obtain ⟨e1, ⟨jA, jc, jL⟩⟩ := t97
       obtain ⟨hEP1, hO⟩ := ht97
       dsimp only [ocI, Ruv, List.cons_append, List.nil_append] at hEP1 hO ⊢
       have hj3 : jL.length ≤ 3 := by
        have h1 : jL.length = (outE e.pl xl (⟨xteam, xnn, xlate, xshort, xhow⟩ : Th)).length := by rw [← hO.1, List.length_map]
        rw [h1]; exact outF_len _ _ _ _
       refine s3 ?_
       refine aW oA (fun b17 hb17 => ?_)
       refine s5 ?_
       refine kJ [(3, _), (9, _), (12, _), (13, _), (17, _), (18, _)] ?_
       refine xDx [0, 1, 2, 3, 4, 5] [] [0, 5] [cellB b12 (rfuC z) 55] ?_
       refine dX rfl (vAgg [_, _, _, _, _, _, _, _, _, _, _, _] rfl rfl rfl (by repeat constructor) rfl) ?_
       refine s4 ?_
       refine dX rfl (vHoldP (i := 2) (m := 6) (cs := [.int .i64 xteam, .int .i64 xnn, .bool xlate, .bool xshort, .int .i64 xhow, .slice xA xl.length xk]) rfl rfl (fun h => h) hh hlt rfl (by omega) (by rw [hx]; rfl)) ?_
       refine dThree (i := 6) (j := 11) (k := 12) (by kernel_rfl) ?_ ?_ ?_
       ·refine St1_mk rfl wAny (oR (fun w hw => refThrow_yes e.pl z xl (⟨xteam, xnn, xlate, xshort, xhow⟩ : Th) xA xk w hP (rfu_W (hw.ok (rfU z) (by repeat constructor)).1) hok (hxa.up ET hw.bel) hq (jud_0 (by rw [hce]; exact hcc) (thr_0 hq).2.2.2 htn16))) (by first | exact trivial | exact ⟨by kernel_rfl, .inl (rfl : waitsB _ [] _ = true)⟩ | exact ⟨by kernel_rfl, .inr ⟨rfl, by repeat constructor⟩⟩) (fun t107 ht107 => ?_)
        dsimp only [ocI, Ruv, List.cons_append, List.nil_append]
        have hl107 : t107.L.length ≤ 3 := by
         have h1 : t107.L.length = (outE e.pl xl (⟨xteam, xnn, xlate, xshort, xhow⟩ : Th)).length := by rw [← ht107.1, List.length_map]
         rw [h1]; exact outF_len _ _ _ _
        refine dOA [7, 8, 9, 10] ?_
        refine s4 ?_
        refine dPair (i := 11) (j := 12) (by kernel_rfl) ?_ ?_
        ·refine St1_mk rfl wAny oA (by first | exact trivial | exact ⟨by kernel_rfl, .inl (rfl : waitsB _ [] _ = true)⟩ | exact ⟨by kernel_rfl, .inr ⟨rfl, by repeat constructor⟩⟩) (fun b19 hb19 => ?_)
         refine dOA [12, 13, 14, 15] ?_
         refine dW rfl oA (fun b20 hb20 => ?_)
         refine dW0 rfl (wStore (cs := [_, _, _, _, _, _, _, _, _, _, _, _]) rfl rfl rfl rfl rfl rfl rfl (by repeat constructor) rfl rfl) ?_
         refine s5 ?_
         refine kJ [(3, _), (9, _), (12, _), (13, _), (17, _), (18, _), (19, _), (20, _), (21, _)] ?_
         refine s1 ?_
         refine aV (vAgg [_, _, _, _, _, _, _, _, _, _, _, _] rfl rfl rfl (by repeat constructor) rfl) ?_
         refine aW0 (wStore (cs := [_, _, _, _, _, _, _, _, _, _, _, _]) rfl rfl rfl rfl rfl rfl rfl (by repeat constructor) rfl rfl) ?_
         refine s7 ?_
         refine aDecF ?_ (fun h => h rfl)
         refine s3 ?_
         refine aCB (fun w hw => refSameRuling (rulE e.pl xl (⟨xteam, xnn, xlate, xshort, xhow⟩ : Th)) (choF (⟨xteam, xnn, xlate, xshort, xhow⟩ : Th) (rulE e.pl xl (⟨xteam, xnn, xlate, xshort, xhow⟩ : Th))) jL jA jc (rulE e.pl xl (⟨xteam, xnn, xlate, xshort, xhow⟩ : Th)) (choF (⟨xteam, xnn, xlate, xshort, xhow⟩ : Th) (rulE e.pl xl (⟨xteam, xnn, xlate, xshort, xhow⟩ : Th))) t107.L t107.A t107.c w (own_arr (A := jA) (c := jc) (L := jL) EO hw (by repeat constructor) (by omega)) (fun p hp => by unfold OcW Dv.v; rw [(hO.2 p hp).1]; exact oc_arr (hw.ok (grpB (jL.map rwB)) (by repeat constructor)).1 hp (hO.2 p hp).1 (hO.2 p hp).2) (own_arr (A := t107.A) (c := t107.c) (L := t107.L) EO hw (by repeat constructor) (by omega)) (fun p hp => by unfold OcW Dv.v; rw [(ht107.2 p hp).1]; exact oc_arr (hw.ok (grpB (t107.L.map rwB)) (by repeat constructor)).1 hp (ht107.2 p hp).1 (ht107.2 p hp).2)) ?_
         refine aDecT ?_ ⟨rfl, rfl, by rw [hO.1, ht107.1]⟩
         refine s6 ?_
         refine JQ_map [cellB b12 (rfuC (thrM z (rulE e.pl xl (⟨xteam, xnn, xlate, xshort, xhow⟩ : Th)) (choF (⟨xteam, xnn, xlate, xshort, xhow⟩ : Th) (rulE e.pl xl (⟨xteam, xnn, xlate, xshort, xhow⟩ : Th))) t107)) 55, grpB (endI b25 e1), rfU (thrM z (rulE e.pl xl (⟨xteam, xnn, xlate, xshort, xhow⟩ : Th)) (choF (⟨xteam, xnn, xlate, xshort, xhow⟩ : Th) (rulE e.pl xl (⟨xteam, xnn, xlate, xshort, xhow⟩ : Th))) t107)] ?_ (fun w hw => ((thr_rfu (t := t107) (e := z) hw (H1 := [cellB b12 (rfuC (thrM z (rulE e.pl xl (⟨xteam, xnn, xlate, xshort, xhow⟩ : Th)) (choF (⟨xteam, xnn, xlate, xshort, xhow⟩ : Th) (rulE e.pl xl (⟨xteam, xnn, xlate, xshort, xhow⟩ : Th))) t107)) 55, grpB (endI b25 e1)]) (by repeat constructor) ht107.2 (by omega)).pick (by repeat constructor)))
         exact xE (e1, (thrM z (rulE e.pl xl (⟨xteam, xnn, xlate, xshort, xhow⟩ : Th)) (choF (⟨xteam, xnn, xlate, xshort, xhow⟩ : Th) (rulE e.pl xl (⟨xteam, xnn, xlate, xshort, xhow⟩ : Th))) t107)) ⟨by rw [hEP1.1]; exact thr_ok hok hq, hEP1.2, by rw [hEP1.1]; exact thr_P hP ht107, by rw [hEP1.1, thr_c]; exact hce⟩
        ·refine St1_mk rfl wAny oA (by first | exact trivial | exact ⟨by kernel_rfl, .inl (rfl : waitsB _ [] _ = true)⟩ | exact ⟨by kernel_rfl, .inr ⟨rfl, by repeat constructor⟩⟩) (fun b20 hb20 => ?_)
         refine dOA [11, 13, 14, 15] ?_
         refine dW rfl oA (fun b19 hb19 => ?_)
         refine dW0 rfl (wStore (cs := [_, _, _, _, _, _, _, _, _, _, _, _]) rfl rfl rfl rfl rfl rfl rfl (by repeat constructor) rfl rfl) ?_
         refine s5 ?_
         refine kJ [(3, _), (9, _), (12, _), (13, _), (17, _), (18, _), (19, _), (20, _), (21, _)] ?_
         refine s1 ?_
         refine aV (vAgg [_, _, _, _, _, _, _, _, _, _, _, _] rfl rfl rfl (by repeat constructor) rfl) ?_
         refine aW0 (wStore (cs := [_, _, _, _, _, _, _, _, _, _, _, _]) rfl rfl rfl rfl rfl rfl rfl (by repeat constructor) rfl rfl) ?_
         refine s7 ?_
         refine aDecF ?_ (fun h => h rfl)
         refine s3 ?_
         refine aCB (fun w hw => refSameRuling (rulE e.pl xl (⟨xteam, xnn, xlate, xshort, xhow⟩ : Th)) (choF (⟨xteam, xnn, xlate, xshort, xhow⟩ : Th) (rulE e.pl xl (⟨xteam, xnn, xlate, xshort, xhow⟩ : Th))) jL jA jc (rulE e.pl xl (⟨xteam, xnn, xlate, xshort, xhow⟩ : Th)) (choF (⟨xteam, xnn, xlate, xshort, xhow⟩ : Th) (rulE e.pl xl (⟨xteam, xnn, xlate, xshort, xhow⟩ : Th))) t107.L t107.A t107.c w (own_arr (A := jA) (c := jc) (L := jL) EO hw (by repeat constructor) (by omega)) (fun p hp => by unfold OcW Dv.v; rw [(hO.2 p hp).1]; exact oc_arr (hw.ok (grpB (jL.map rwB)) (by repeat constructor)).1 hp (hO.2 p hp).1 (hO.2 p hp).2) (own_arr (A := t107.A) (c := t107.c) (L := t107.L) EO hw (by repeat constructor) (by omega)) (fun p hp => by unfold OcW Dv.v; rw [(ht107.2 p hp).1]; exact oc_arr (hw.ok (grpB (t107.L.map rwB)) (by repeat constructor)).1 hp (ht107.2 p hp).1 (ht107.2 p hp).2)) ?_
         refine aDecT ?_ ⟨rfl, rfl, by rw [hO.1, ht107.1]⟩
         refine s6 ?_
         refine JQ_map [cellB b12 (rfuC (thrM z (rulE e.pl xl (⟨xteam, xnn, xlate, xshort, xhow⟩ : Th)) (choF (⟨xteam, xnn, xlate, xshort, xhow⟩ : Th) (rulE e.pl xl (⟨xteam, xnn, xlate, xshort, xhow⟩ : Th))) t107)) 55, grpB (endI b25 e1), rfU (thrM z (rulE e.pl xl (⟨xteam, xnn, xlate, xshort, xhow⟩ : Th)) (choF (⟨xteam, xnn, xlate, xshort, xhow⟩ : Th) (rulE e.pl xl (⟨xteam, xnn, xlate, xshort, xhow⟩ : Th))) t107)] ?_ (fun w hw => ((thr_rfu (t := t107) (e := z) hw (H1 := [cellB b12 (rfuC (thrM z (rulE e.pl xl (⟨xteam, xnn, xlate, xshort, xhow⟩ : Th)) (choF (⟨xteam, xnn, xlate, xshort, xhow⟩ : Th) (rulE e.pl xl (⟨xteam, xnn, xlate, xshort, xhow⟩ : Th))) t107)) 55, grpB (endI b25 e1)]) (by repeat constructor) ht107.2 (by omega)).pick (by repeat constructor)))
         exact xE (e1, (thrM z (rulE e.pl xl (⟨xteam, xnn, xlate, xshort, xhow⟩ : Th)) (choF (⟨xteam, xnn, xlate, xshort, xhow⟩ : Th) (rulE e.pl xl (⟨xteam, xnn, xlate, xshort, xhow⟩ : Th))) t107)) ⟨by rw [hEP1.1]; exact thr_ok hok hq, hEP1.2, by rw [hEP1.1]; exact thr_P hP ht107, by rw [hEP1.1, thr_c]; exact hce⟩
       ·refine St1_mk rfl wAny oA (by first | exact trivial | exact ⟨by kernel_rfl, .inl (rfl : waitsB _ [] _ = true)⟩ | exact ⟨by kernel_rfl, .inr ⟨rfl, by repeat constructor⟩⟩) (fun b19 hb19 => ?_)
        refine dOA [] ?_
        refine dPair (i := 6) (j := 12) (by kernel_rfl) ?_ ?_
        ·refine St1_mk rfl wAny (oR (fun w hw => refThrow_yes e.pl z xl (⟨xteam, xnn, xlate, xshort, xhow⟩ : Th) xA xk w hP (rfu_W (hw.ok (rfU z) (by repeat constructor)).1) hok (hxa.up ET hw.bel) hq (jud_0 (by rw [hce]; exact hcc) (thr_0 hq).2.2.2 htn16))) (by first | exact trivial | exact ⟨by kernel_rfl, .inl (rfl : waitsB _ [] _ = true)⟩ | exact ⟨by kernel_rfl, .inr ⟨rfl, by repeat constructor⟩⟩) (fun t107 ht107 => ?_)
         dsimp only [ocI, Ruv, List.cons_append, List.nil_append]
         have hl107 : t107.L.length ≤ 3 := by
          have h1 : t107.L.length = (outE e.pl xl (⟨xteam, xnn, xlate, xshort, xhow⟩ : Th)).length := by rw [← ht107.1, List.length_map]
          rw [h1]; exact outF_len _ _ _ _
         refine dOA [7, 8, 9, 10, 12, 13, 14, 15] ?_
         refine s4 ?_
         refine dW rfl oA (fun b20 hb20 => ?_)
         refine dW0 rfl (wStore (cs := [_, _, _, _, _, _, _, _, _, _, _, _]) rfl rfl rfl rfl rfl rfl rfl (by repeat constructor) rfl rfl) ?_
         refine s5 ?_
         refine kJ [(3, _), (9, _), (12, _), (13, _), (17, _), (18, _), (19, _), (20, _), (21, _)] ?_
         refine s1 ?_
         refine aV (vAgg [_, _, _, _, _, _, _, _, _, _, _, _] rfl rfl rfl (by repeat constructor) rfl) ?_
         refine aW0 (wStore (cs := [_, _, _, _, _, _, _, _, _, _, _, _]) rfl rfl rfl rfl rfl rfl rfl (by repeat constructor) rfl rfl) ?_
         refine s7 ?_
         refine aDecF ?_ (fun h => h rfl)
         refine s3 ?_
         refine aCB (fun w hw => refSameRuling (rulE e.pl xl (⟨xteam, xnn, xlate, xshort, xhow⟩ : Th)) (choF (⟨xteam, xnn, xlate, xshort, xhow⟩ : Th) (rulE e.pl xl (⟨xteam, xnn, xlate, xshort, xhow⟩ : Th))) jL jA jc (rulE e.pl xl (⟨xteam, xnn, xlate, xshort, xhow⟩ : Th)) (choF (⟨xteam, xnn, xlate, xshort, xhow⟩ : Th) (rulE e.pl xl (⟨xteam, xnn, xlate, xshort, xhow⟩ : Th))) t107.L t107.A t107.c w (own_arr (A := jA) (c := jc) (L := jL) EO hw (by repeat constructor) (by omega)) (fun p hp => by unfold OcW Dv.v; rw [(hO.2 p hp).1]; exact oc_arr (hw.ok (grpB (jL.map rwB)) (by repeat constructor)).1 hp (hO.2 p hp).1 (hO.2 p hp).2) (own_arr (A := t107.A) (c := t107.c) (L := t107.L) EO hw (by repeat constructor) (by omega)) (fun p hp => by unfold OcW Dv.v; rw [(ht107.2 p hp).1]; exact oc_arr (hw.ok (grpB (t107.L.map rwB)) (by repeat constructor)).1 hp (ht107.2 p hp).1 (ht107.2 p hp).2)) ?_
         refine aDecT ?_ ⟨rfl, rfl, by rw [hO.1, ht107.1]⟩
         refine s6 ?_
         refine JQ_map [cellB b12 (rfuC (thrM z (rulE e.pl xl (⟨xteam, xnn, xlate, xshort, xhow⟩ : Th)) (choF (⟨xteam, xnn, xlate, xshort, xhow⟩ : Th) (rulE e.pl xl (⟨xteam, xnn, xlate, xshort, xhow⟩ : Th))) t107)) 55, grpB (endI b25 e1), rfU (thrM z (rulE e.pl xl (⟨xteam, xnn, xlate, xshort, xhow⟩ : Th)) (choF (⟨xteam, xnn, xlate, xshort, xhow⟩ : Th) (rulE e.pl xl (⟨xteam, xnn, xlate, xshort, xhow⟩ : Th))) t107)] ?_ (fun w hw => ((thr_rfu (t := t107) (e := z) hw (H1 := [cellB b12 (rfuC (thrM z (rulE e.pl xl (⟨xteam, xnn, xlate, xshort, xhow⟩ : Th)) (choF (⟨xteam, xnn, xlate, xshort, xhow⟩ : Th) (rulE e.pl xl (⟨xteam, xnn, xlate, xshort, xhow⟩ : Th))) t107)) 55, grpB (endI b25 e1)]) (by repeat constructor) ht107.2 (by omega)).pick (by repeat constructor)))
         exact xE (e1, (thrM z (rulE e.pl xl (⟨xteam, xnn, xlate, xshort, xhow⟩ : Th)) (choF (⟨xteam, xnn, xlate, xshort, xhow⟩ : Th) (rulE e.pl xl (⟨xteam, xnn, xlate, xshort, xhow⟩ : Th))) t107)) ⟨by rw [hEP1.1]; exact thr_ok hok hq, hEP1.2, by rw [hEP1.1]; exact thr_P hP ht107, by rw [hEP1.1, thr_c]; exact hce⟩
        ·refine St1_mk rfl wAny oA (by first | exact trivial | exact ⟨by kernel_rfl, .inl (rfl : waitsB _ [] _ = true)⟩ | exact ⟨by kernel_rfl, .inr ⟨rfl, by repeat constructor⟩⟩) (fun b20 hb20 => ?_)
         refine dOA [6, 7, 8, 9, 10, 13, 14, 15] ?_
         refine dW rfl (oR (fun w hw => refThrow_yes e.pl z xl (⟨xteam, xnn, xlate, xshort, xhow⟩ : Th) xA xk w hP (rfu_W (hw.ok (rfU z) (by repeat constructor)).1) hok (hxa.up ET hw.bel) hq (jud_0 (by rw [hce]; exact hcc) (thr_0 hq).2.2.2 htn16))) (fun t107 ht107 => ?_)
         dsimp only [ocI, Ruv, List.cons_append, List.nil_append]
         have hl107 : t107.L.length ≤ 3 := by
          have h1 : t107.L.length = (outE e.pl xl (⟨xteam, xnn, xlate, xshort, xhow⟩ : Th)).length := by rw [← ht107.1, List.length_map]
          rw [h1]; exact outF_len _ _ _ _
         refine s4 ?_
         refine dW0 rfl (wStore (cs := [_, _, _, _, _, _, _, _, _, _, _, _]) rfl rfl rfl rfl rfl rfl rfl (by repeat constructor) rfl rfl) ?_
         refine s5 ?_
         refine kJ [(3, _), (9, _), (12, _), (13, _), (17, _), (18, _), (19, _), (20, _), (21, _)] ?_
         refine s1 ?_
         refine aV (vAgg [_, _, _, _, _, _, _, _, _, _, _, _] rfl rfl rfl (by repeat constructor) rfl) ?_
         refine aW0 (wStore (cs := [_, _, _, _, _, _, _, _, _, _, _, _]) rfl rfl rfl rfl rfl rfl rfl (by repeat constructor) rfl rfl) ?_
         refine s7 ?_
         refine aDecF ?_ (fun h => h rfl)
         refine s3 ?_
         refine aCB (fun w hw => refSameRuling (rulE e.pl xl (⟨xteam, xnn, xlate, xshort, xhow⟩ : Th)) (choF (⟨xteam, xnn, xlate, xshort, xhow⟩ : Th) (rulE e.pl xl (⟨xteam, xnn, xlate, xshort, xhow⟩ : Th))) jL jA jc (rulE e.pl xl (⟨xteam, xnn, xlate, xshort, xhow⟩ : Th)) (choF (⟨xteam, xnn, xlate, xshort, xhow⟩ : Th) (rulE e.pl xl (⟨xteam, xnn, xlate, xshort, xhow⟩ : Th))) t107.L t107.A t107.c w (own_arr (A := jA) (c := jc) (L := jL) EO hw (by repeat constructor) (by omega)) (fun p hp => by unfold OcW Dv.v; rw [(hO.2 p hp).1]; exact oc_arr (hw.ok (grpB (jL.map rwB)) (by repeat constructor)).1 hp (hO.2 p hp).1 (hO.2 p hp).2) (own_arr (A := t107.A) (c := t107.c) (L := t107.L) EO hw (by repeat constructor) (by omega)) (fun p hp => by unfold OcW Dv.v; rw [(ht107.2 p hp).1]; exact oc_arr (hw.ok (grpB (t107.L.map rwB)) (by repeat constructor)).1 hp (ht107.2 p hp).1 (ht107.2 p hp).2)) ?_
         refine aDecT ?_ ⟨rfl, rfl, by rw [hO.1, ht107.1]⟩
         refine s6 ?_
         refine JQ_map [cellB b12 (rfuC (thrM z (rulE e.pl xl (⟨xteam, xnn, xlate, xshort, xhow⟩ : Th)) (choF (⟨xteam, xnn, xlate, xshort, xhow⟩ : Th) (rulE e.pl xl (⟨xteam, xnn, xlate, xshort, xhow⟩ : Th))) t107)) 55, grpB (endI b25 e1), rfU (thrM z (rulE e.pl xl (⟨xteam, xnn, xlate, xshort, xhow⟩ : Th)) (choF (⟨xteam, xnn, xlate, xshort, xhow⟩ : Th) (rulE e.pl xl (⟨xteam, xnn, xlate, xshort, xhow⟩ : Th))) t107)] ?_ (fun w hw => ((thr_rfu (t := t107) (e := z) hw (H1 := [cellB b12 (rfuC (thrM z (rulE e.pl xl (⟨xteam, xnn, xlate, xshort, xhow⟩ : Th)) (choF (⟨xteam, xnn, xlate, xshort, xhow⟩ : Th) (rulE e.pl xl (⟨xteam, xnn, xlate, xshort, xhow⟩ : Th))) t107)) 55, grpB (endI b25 e1)]) (by repeat constructor) ht107.2 (by omega)).pick (by repeat constructor)))
         exact xE (e1, (thrM z (rulE e.pl xl (⟨xteam, xnn, xlate, xshort, xhow⟩ : Th)) (choF (⟨xteam, xnn, xlate, xshort, xhow⟩ : Th) (rulE e.pl xl (⟨xteam, xnn, xlate, xshort, xhow⟩ : Th))) t107)) ⟨by rw [hEP1.1]; exact thr_ok hok hq, hEP1.2, by rw [hEP1.1]; exact thr_P hP ht107, by rw [hEP1.1, thr_c]; exact hce⟩
       ·refine St1_mk rfl wAny oA (by first | exact trivial | exact ⟨by kernel_rfl, .inl (rfl : waitsB _ [] _ = true)⟩ | exact ⟨by kernel_rfl, .inr ⟨rfl, by repeat constructor⟩⟩) (fun b20 hb20 => ?_)
        refine dOA [] ?_
        refine dPair (i := 6) (j := 11) (by kernel_rfl) ?_ ?_
        ·refine St1_mk rfl wAny (oR (fun w hw => refThrow_yes e.pl z xl (⟨xteam, xnn, xlate, xshort, xhow⟩ : Th) xA xk w hP (rfu_W (hw.ok (rfU z) (by repeat constructor)).1) hok (hxa.up ET hw.bel) hq (jud_0 (by rw [hce]; exact hcc) (thr_0 hq).2.2.2 htn16))) (by first | exact trivial | exact ⟨by kernel_rfl, .inl (rfl : waitsB _ [] _ = true)⟩ | exact ⟨by kernel_rfl, .inr ⟨rfl, by repeat constructor⟩⟩) (fun t107 ht107 => ?_)
         dsimp only [ocI, Ruv, List.cons_append, List.nil_append]
         have hl107 : t107.L.length ≤ 3 := by
          have h1 : t107.L.length = (outE e.pl xl (⟨xteam, xnn, xlate, xshort, xhow⟩ : Th)).length := by rw [← ht107.1, List.length_map]
          rw [h1]; exact outF_len _ _ _ _
         refine dOA [7, 8, 9, 10, 11, 13, 14, 15] ?_
         refine s4 ?_
         refine dW rfl oA (fun b19 hb19 => ?_)
         refine dW0 rfl (wStore (cs := [_, _, _, _, _, _, _, _, _, _, _, _]) rfl rfl rfl rfl rfl rfl rfl (by repeat constructor) rfl rfl) ?_
         refine s5 ?_
         refine kJ [(3, _), (9, _), (12, _), (13, _), (17, _), (18, _), (19, _), (20, _), (21, _)] ?_
         refine s1 ?_
         refine aV (vAgg [_, _, _, _, _, _, _, _, _, _, _, _] rfl rfl rfl (by repeat constructor) rfl) ?_
         refine aW0 (wStore (cs := [_, _, _, _, _, _, _, _, _, _, _, _]) rfl rfl rfl rfl rfl rfl rfl (by repeat constructor) rfl rfl) ?_
         refine s7 ?_
         refine aDecF ?_ (fun h => h rfl)
         refine s3 ?_
         refine aCB (fun w hw => refSameRuling (rulE e.pl xl (⟨xteam, xnn, xlate, xshort, xhow⟩ : Th)) (choF (⟨xteam, xnn, xlate, xshort, xhow⟩ : Th) (rulE e.pl xl (⟨xteam, xnn, xlate, xshort, xhow⟩ : Th))) jL jA jc (rulE e.pl xl (⟨xteam, xnn, xlate, xshort, xhow⟩ : Th)) (choF (⟨xteam, xnn, xlate, xshort, xhow⟩ : Th) (rulE e.pl xl (⟨xteam, xnn, xlate, xshort, xhow⟩ : Th))) t107.L t107.A t107.c w (own_arr (A := jA) (c := jc) (L := jL) EO hw (by repeat constructor) (by omega)) (fun p hp => by unfold OcW Dv.v; rw [(hO.2 p hp).1]; exact oc_arr (hw.ok (grpB (jL.map rwB)) (by repeat constructor)).1 hp (hO.2 p hp).1 (hO.2 p hp).2) (own_arr (A := t107.A) (c := t107.c) (L := t107.L) EO hw (by repeat constructor) (by omega)) (fun p hp => by unfold OcW Dv.v; rw [(ht107.2 p hp).1]; exact oc_arr (hw.ok (grpB (t107.L.map rwB)) (by repeat constructor)).1 hp (ht107.2 p hp).1 (ht107.2 p hp).2)) ?_
         refine aDecT ?_ ⟨rfl, rfl, by rw [hO.1, ht107.1]⟩
         refine s6 ?_
         refine JQ_map [cellB b12 (rfuC (thrM z (rulE e.pl xl (⟨xteam, xnn, xlate, xshort, xhow⟩ : Th)) (choF (⟨xteam, xnn, xlate, xshort, xhow⟩ : Th) (rulE e.pl xl (⟨xteam, xnn, xlate, xshort, xhow⟩ : Th))) t107)) 55, grpB (endI b25 e1), rfU (thrM z (rulE e.pl xl (⟨xteam, xnn, xlate, xshort, xhow⟩ : Th)) (choF (⟨xteam, xnn, xlate, xshort, xhow⟩ : Th) (rulE e.pl xl (⟨xteam, xnn, xlate, xshort, xhow⟩ : Th))) t107)] ?_ (fun w hw => ((thr_rfu (t := t107) (e := z) hw (H1 := [cellB b12 (rfuC (thrM z (rulE e.pl xl (⟨xteam, xnn, xlate, xshort, xhow⟩ : Th)) (choF (⟨xteam, xnn, xlate, xshort, xhow⟩ : Th) (rulE e.pl xl (⟨xteam, xnn, xlate, xshort, xhow⟩ : Th))) t107)) 55, grpB (endI b25 e1)]) (by repeat constructor) ht107.2 (by omega)).pick (by repeat constructor)))
         exact xE (e1, (thrM z (rulE e.pl xl (⟨xteam, xnn, xlate, xshort, xhow⟩ : Th)) (choF (⟨xteam, xnn, xlate, xshort, xhow⟩ : Th) (rulE e.pl xl (⟨xteam, xnn, xlate, xshort, xhow⟩ : Th))) t107)) ⟨by rw [hEP1.1]; exact thr_ok hok hq, hEP1.2, by rw [hEP1.1]; exact thr_P hP ht107, by rw [hEP1.1, thr_c]; exact hce⟩
        ·refine St1_mk rfl wAny oA (by first | exact trivial | exact ⟨by kernel_rfl, .inl (rfl : waitsB _ [] _ = true)⟩ | exact ⟨by kernel_rfl, .inr ⟨rfl, by repeat constructor⟩⟩) (fun b19 hb19 => ?_)
         refine dOA [6, 7, 8, 9, 10, 13, 14, 15] ?_
         refine dW rfl (oR (fun w hw => refThrow_yes e.pl z xl (⟨xteam, xnn, xlate, xshort, xhow⟩ : Th) xA xk w hP (rfu_W (hw.ok (rfU z) (by repeat constructor)).1) hok (hxa.up ET hw.bel) hq (jud_0 (by rw [hce]; exact hcc) (thr_0 hq).2.2.2 htn16))) (fun t107 ht107 => ?_)
         dsimp only [ocI, Ruv, List.cons_append, List.nil_append]
         have hl107 : t107.L.length ≤ 3 := by
          have h1 : t107.L.length = (outE e.pl xl (⟨xteam, xnn, xlate, xshort, xhow⟩ : Th)).length := by rw [← ht107.1, List.length_map]
          rw [h1]; exact outF_len _ _ _ _
         refine s4 ?_
         refine dW0 rfl (wStore (cs := [_, _, _, _, _, _, _, _, _, _, _, _]) rfl rfl rfl rfl rfl rfl rfl (by repeat constructor) rfl rfl) ?_
         refine s5 ?_
         refine kJ [(3, _), (9, _), (12, _), (13, _), (17, _), (18, _), (19, _), (20, _), (21, _)] ?_
         refine s1 ?_
         refine aV (vAgg [_, _, _, _, _, _, _, _, _, _, _, _] rfl rfl rfl (by repeat constructor) rfl) ?_
         refine aW0 (wStore (cs := [_, _, _, _, _, _, _, _, _, _, _, _]) rfl rfl rfl rfl rfl rfl rfl (by repeat constructor) rfl rfl) ?_
         refine s7 ?_
         refine aDecF ?_ (fun h => h rfl)
         refine s3 ?_
         refine aCB (fun w hw => refSameRuling (rulE e.pl xl (⟨xteam, xnn, xlate, xshort, xhow⟩ : Th)) (choF (⟨xteam, xnn, xlate, xshort, xhow⟩ : Th) (rulE e.pl xl (⟨xteam, xnn, xlate, xshort, xhow⟩ : Th))) jL jA jc (rulE e.pl xl (⟨xteam, xnn, xlate, xshort, xhow⟩ : Th)) (choF (⟨xteam, xnn, xlate, xshort, xhow⟩ : Th) (rulE e.pl xl (⟨xteam, xnn, xlate, xshort, xhow⟩ : Th))) t107.L t107.A t107.c w (own_arr (A := jA) (c := jc) (L := jL) EO hw (by repeat constructor) (by omega)) (fun p hp => by unfold OcW Dv.v; rw [(hO.2 p hp).1]; exact oc_arr (hw.ok (grpB (jL.map rwB)) (by repeat constructor)).1 hp (hO.2 p hp).1 (hO.2 p hp).2) (own_arr (A := t107.A) (c := t107.c) (L := t107.L) EO hw (by repeat constructor) (by omega)) (fun p hp => by unfold OcW Dv.v; rw [(ht107.2 p hp).1]; exact oc_arr (hw.ok (grpB (t107.L.map rwB)) (by repeat constructor)).1 hp (ht107.2 p hp).1 (ht107.2 p hp).2)) ?_
         refine aDecT ?_ ⟨rfl, rfl, by rw [hO.1, ht107.1]⟩
         refine s6 ?_
         refine JQ_map [cellB b12 (rfuC (thrM z (rulE e.pl xl (⟨xteam, xnn, xlate, xshort, xhow⟩ : Th)) (choF (⟨xteam, xnn, xlate, xshort, xhow⟩ : Th) (rulE e.pl xl (⟨xteam, xnn, xlate, xshort, xhow⟩ : Th))) t107)) 55, grpB (endI b25 e1), rfU (thrM z (rulE e.pl xl (⟨xteam, xnn, xlate, xshort, xhow⟩ : Th)) (choF (⟨xteam, xnn, xlate, xshort, xhow⟩ : Th) (rulE e.pl xl (⟨xteam, xnn, xlate, xshort, xhow⟩ : Th))) t107)] ?_ (fun w hw => ((thr_rfu (t := t107) (e := z) hw (H1 := [cellB b12 (rfuC (thrM z (rulE e.pl xl (⟨xteam, xnn, xlate, xshort, xhow⟩ : Th)) (choF (⟨xteam, xnn, xlate, xshort, xhow⟩ : Th) (rulE e.pl xl (⟨xteam, xnn, xlate, xshort, xhow⟩ : Th))) t107)) 55, grpB (endI b25 e1)]) (by repeat constructor) ht107.2 (by omega)).pick (by repeat constructor)))
         exact xE (e1, (thrM z (rulE e.pl xl (⟨xteam, xnn, xlate, xshort, xhow⟩ : Th)) (choF (⟨xteam, xnn, xlate, xshort, xhow⟩ : Th) (rulE e.pl xl (⟨xteam, xnn, xlate, xshort, xhow⟩ : Th))) t107)) ⟨by rw [hEP1.1]; exact thr_ok hok hq, hEP1.2, by rw [hEP1.1]; exact thr_P hP ht107, by rw [hEP1.1, thr_c]; exact hce⟩
      ·refine kJ [(3, _), (9, _), (12, _), (13, _)] ?_
       refine s6 ?_
       refine aV (vHoldP (i := 2) (m := 6) (cs := [.int .i64 xteam, .int .i64 xnn, .bool xlate, .bool xshort, .int .i64 xhow, .slice xA xl.length xk]) rfl rfl (fun h => h) hh hlt rfl (by omega) (by rw [hx]; rfl)) ?_
       refine aCB (fun w hw => Throw_no b25 e xl (⟨xteam, xnn, xlate, xshort, xhow⟩ : Th) xA xk w (EndW.of (hw.ok (grpB (endI b25 e)) (by repeat constructor)).1.1 ⟨rfl, hn⟩ hok) hok (hxa.up ET hw.bel) hq) ?_
       refine s3 ?_
       refine aW oA (fun b17 hb17 => ?_)
       refine s5 ?_
       refine kJ [(3, _), (9, _), (12, _), (13, _), (17, _), (18, _)] ?_
       refine xDx [0, 1, 2, 3, 4, 5] [] [0, 5] [cellB b12 (rfuC z) 55] ?_
       refine dX rfl (vAgg [_, _, _, _, _, _, _, _, _, _, _, _] rfl rfl rfl (by repeat constructor) rfl) ?_
       refine s4 ?_
       refine dX rfl (vHoldP (i := 2) (m := 6) (cs := [.int .i64 xteam, .int .i64 xnn, .bool xlate, .bool xshort, .int .i64 xhow, .slice xA xl.length xk]) rfl rfl (fun h => h) hh hlt rfl (by omega) (by rw [hx]; rfl)) ?_
       refine dThree (i := 6) (j := 11) (k := 12) (by kernel_rfl) ?_ ?_ ?_
       ·refine St1_mk rfl wAny (oB (fun w hw => refThrow_no e.pl z xl (⟨xteam, xnn, xlate, xshort, xhow⟩ : Th) xA xk w hP (rfu_W (hw.ok (rfU z) (by repeat constructor)).1) hok (hxa.up ET hw.bel) hq)) (by first | exact trivial | exact ⟨by kernel_rfl, .inl (rfl : waitsB _ [] _ = true)⟩ | exact ⟨by kernel_rfl, .inr ⟨rfl, by repeat constructor⟩⟩) (fun _ _ => ?_)

        refine dOA [7, 8, 9, 10] ?_
        refine s4 ?_
        refine dPair (i := 11) (j := 12) (by kernel_rfl) ?_ ?_
        ·refine St1_mk rfl wAny oA (by first | exact trivial | exact ⟨by kernel_rfl, .inl (rfl : waitsB _ [] _ = true)⟩ | exact ⟨by kernel_rfl, .inr ⟨rfl, by repeat constructor⟩⟩) (fun b19 hb19 => ?_)
         refine dOA [12, 13, 14, 15] ?_
         refine dW rfl oA (fun b20 hb20 => ?_)
         refine dW0 rfl (wStore (cs := [_, _, _, _, _, _, _, _, _, _, _, _]) rfl rfl rfl rfl rfl rfl rfl (by repeat constructor) rfl rfl) ?_
         refine s5 ?_
         refine kJ [(3, _), (9, _), (12, _), (13, _), (17, _), (18, _), (19, _), (20, _), (21, _)] ?_
         refine s1 ?_
         refine aV (vAgg [_, _, _, _, _, _, _, _, _, _, _, _] rfl rfl rfl (by repeat constructor) rfl) ?_
         refine aW0 (wStore (cs := [_, _, _, _, _, _, _, _, _, _, _, _]) rfl rfl rfl rfl rfl rfl rfl (by repeat constructor) rfl rfl) ?_
         refine s7 ?_
         refine aDecF ?_ (fun h => h rfl)
         refine s3 ?_
         refine aCB (fun w hw => refSameRuling 0 0 [] none 0 0 0 [] none 0 w (Arr.nil w) (fun p hp => by cases hp) (Arr.nil w) (fun p hp => by cases hp)) ?_
         refine aDecT ?_ ⟨rfl, rfl, rfl⟩
         refine s6 ?_
         exact xE (e, z) ⟨hok, hn, hP, hce⟩
        ·refine St1_mk rfl wAny oA (by first | exact trivial | exact ⟨by kernel_rfl, .inl (rfl : waitsB _ [] _ = true)⟩ | exact ⟨by kernel_rfl, .inr ⟨rfl, by repeat constructor⟩⟩) (fun b20 hb20 => ?_)
         refine dOA [11, 13, 14, 15] ?_
         refine dW rfl oA (fun b19 hb19 => ?_)
         refine dW0 rfl (wStore (cs := [_, _, _, _, _, _, _, _, _, _, _, _]) rfl rfl rfl rfl rfl rfl rfl (by repeat constructor) rfl rfl) ?_
         refine s5 ?_
         refine kJ [(3, _), (9, _), (12, _), (13, _), (17, _), (18, _), (19, _), (20, _), (21, _)] ?_
         refine s1 ?_
         refine aV (vAgg [_, _, _, _, _, _, _, _, _, _, _, _] rfl rfl rfl (by repeat constructor) rfl) ?_
         refine aW0 (wStore (cs := [_, _, _, _, _, _, _, _, _, _, _, _]) rfl rfl rfl rfl rfl rfl rfl (by repeat constructor) rfl rfl) ?_
         refine s7 ?_
         refine aDecF ?_ (fun h => h rfl)
         refine s3 ?_
         refine aCB (fun w hw => refSameRuling 0 0 [] none 0 0 0 [] none 0 w (Arr.nil w) (fun p hp => by cases hp) (Arr.nil w) (fun p hp => by cases hp)) ?_
         refine aDecT ?_ ⟨rfl, rfl, rfl⟩
         refine s6 ?_
         exact xE (e, z) ⟨hok, hn, hP, hce⟩
       ·refine St1_mk rfl wAny oA (by first | exact trivial | exact ⟨by kernel_rfl, .inl (rfl : waitsB _ [] _ = true)⟩ | exact ⟨by kernel_rfl, .inr ⟨rfl, by repeat constructor⟩⟩) (fun b19 hb19 => ?_)
        refine dOA [] ?_
        refine dPair (i := 6) (j := 12) (by kernel_rfl) ?_ ?_
        ·refine St1_mk rfl wAny (oB (fun w hw => refThrow_no e.pl z xl (⟨xteam, xnn, xlate, xshort, xhow⟩ : Th) xA xk w hP (rfu_W (hw.ok (rfU z) (by repeat constructor)).1) hok (hxa.up ET hw.bel) hq)) (by first | exact trivial | exact ⟨by kernel_rfl, .inl (rfl : waitsB _ [] _ = true)⟩ | exact ⟨by kernel_rfl, .inr ⟨rfl, by repeat constructor⟩⟩) (fun _ _ => ?_)

         refine dOA [7, 8, 9, 10, 12, 13, 14, 15] ?_
         refine s4 ?_
         refine dW rfl oA (fun b20 hb20 => ?_)
         refine dW0 rfl (wStore (cs := [_, _, _, _, _, _, _, _, _, _, _, _]) rfl rfl rfl rfl rfl rfl rfl (by repeat constructor) rfl rfl) ?_
         refine s5 ?_
         refine kJ [(3, _), (9, _), (12, _), (13, _), (17, _), (18, _), (19, _), (20, _), (21, _)] ?_
         refine s1 ?_
         refine aV (vAgg [_, _, _, _, _, _, _, _, _, _, _, _] rfl rfl rfl (by repeat constructor) rfl) ?_
         refine aW0 (wStore (cs := [_, _, _, _, _, _, _, _, _, _, _, _]) rfl rfl rfl rfl rfl rfl rfl (by repeat constructor) rfl rfl) ?_
         refine s7 ?_
         refine aDecF ?_ (fun h => h rfl)
         refine s3 ?_
         refine aCB (fun w hw => refSameRuling 0 0 [] none 0 0 0 [] none 0 w (Arr.nil w) (fun p hp => by cases hp) (Arr.nil w) (fun p hp => by cases hp)) ?_
         refine aDecT ?_ ⟨rfl, rfl, rfl⟩
         refine s6 ?_
         exact xE (e, z) ⟨hok, hn, hP, hce⟩
        ·refine St1_mk rfl wAny oA (by first | exact trivial | exact ⟨by kernel_rfl, .inl (rfl : waitsB _ [] _ = true)⟩ | exact ⟨by kernel_rfl, .inr ⟨rfl, by repeat constructor⟩⟩) (fun b20 hb20 => ?_)
         refine dOA [6, 7, 8, 9, 10, 13, 14, 15] ?_
         refine dCB rfl (fun w hw => refThrow_no e.pl z xl (⟨xteam, xnn, xlate, xshort, xhow⟩ : Th) xA xk w hP (rfu_W (hw.ok (rfU z) (by repeat constructor)).1) hok (hxa.up ET hw.bel) hq) ?_
         refine s4 ?_
         refine dW0 rfl (wStore (cs := [_, _, _, _, _, _, _, _, _, _, _, _]) rfl rfl rfl rfl rfl rfl rfl (by repeat constructor) rfl rfl) ?_
         refine s5 ?_
         refine kJ [(3, _), (9, _), (12, _), (13, _), (17, _), (18, _), (19, _), (20, _), (21, _)] ?_
         refine s1 ?_
         refine aV (vAgg [_, _, _, _, _, _, _, _, _, _, _, _] rfl rfl rfl (by repeat constructor) rfl) ?_
         refine aW0 (wStore (cs := [_, _, _, _, _, _, _, _, _, _, _, _]) rfl rfl rfl rfl rfl rfl rfl (by repeat constructor) rfl rfl) ?_
         refine s7 ?_
         refine aDecF ?_ (fun h => h rfl)
         refine s3 ?_
         refine aCB (fun w hw => refSameRuling 0 0 [] none 0 0 0 [] none 0 w (Arr.nil w) (fun p hp => by cases hp) (Arr.nil w) (fun p hp => by cases hp)) ?_
         refine aDecT ?_ ⟨rfl, rfl, rfl⟩
         refine s6 ?_
         exact xE (e, z) ⟨hok, hn, hP, hce⟩
       ·refine St1_mk rfl wAny oA (by first | exact trivial | exact ⟨by kernel_rfl, .inl (rfl : waitsB _ [] _ = true)⟩ | exact ⟨by kernel_rfl, .inr ⟨rfl, by repeat constructor⟩⟩) (fun b20 hb20 => ?_)
        refine dOA [] ?_
        refine dPair (i := 6) (j := 11) (by kernel_rfl) ?_ ?_
        ·refine St1_mk rfl wAny (oB (fun w hw => refThrow_no e.pl z xl (⟨xteam, xnn, xlate, xshort, xhow⟩ : Th) xA xk w hP (rfu_W (hw.ok (rfU z) (by repeat constructor)).1) hok (hxa.up ET hw.bel) hq)) (by first | exact trivial | exact ⟨by kernel_rfl, .inl (rfl : waitsB _ [] _ = true)⟩ | exact ⟨by kernel_rfl, .inr ⟨rfl, by repeat constructor⟩⟩) (fun _ _ => ?_)

         refine dOA [7, 8, 9, 10, 11, 13, 14, 15] ?_
         refine s4 ?_
         refine dW rfl oA (fun b19 hb19 => ?_)
         refine dW0 rfl (wStore (cs := [_, _, _, _, _, _, _, _, _, _, _, _]) rfl rfl rfl rfl rfl rfl rfl (by repeat constructor) rfl rfl) ?_
         refine s5 ?_
         refine kJ [(3, _), (9, _), (12, _), (13, _), (17, _), (18, _), (19, _), (20, _), (21, _)] ?_
         refine s1 ?_
         refine aV (vAgg [_, _, _, _, _, _, _, _, _, _, _, _] rfl rfl rfl (by repeat constructor) rfl) ?_
         refine aW0 (wStore (cs := [_, _, _, _, _, _, _, _, _, _, _, _]) rfl rfl rfl rfl rfl rfl rfl (by repeat constructor) rfl rfl) ?_
         refine s7 ?_
         refine aDecF ?_ (fun h => h rfl)
         refine s3 ?_
         refine aCB (fun w hw => refSameRuling 0 0 [] none 0 0 0 [] none 0 w (Arr.nil w) (fun p hp => by cases hp) (Arr.nil w) (fun p hp => by cases hp)) ?_
         refine aDecT ?_ ⟨rfl, rfl, rfl⟩
         refine s6 ?_
         exact xE (e, z) ⟨hok, hn, hP, hce⟩
        ·refine St1_mk rfl wAny oA (by first | exact trivial | exact ⟨by kernel_rfl, .inl (rfl : waitsB _ [] _ = true)⟩ | exact ⟨by kernel_rfl, .inr ⟨rfl, by repeat constructor⟩⟩) (fun b19 hb19 => ?_)
         refine dOA [6, 7, 8, 9, 10, 13, 14, 15] ?_
         refine dCB rfl (fun w hw => refThrow_no e.pl z xl (⟨xteam, xnn, xlate, xshort, xhow⟩ : Th) xA xk w hP (rfu_W (hw.ok (rfU z) (by repeat constructor)).1) hok (hxa.up ET hw.bel) hq) ?_
         refine s4 ?_
         refine dW0 rfl (wStore (cs := [_, _, _, _, _, _, _, _, _, _, _, _]) rfl rfl rfl rfl rfl rfl rfl (by repeat constructor) rfl rfl) ?_
         refine s5 ?_
         refine kJ [(3, _), (9, _), (12, _), (13, _), (17, _), (18, _), (19, _), (20, _), (21, _)] ?_
         refine s1 ?_
         refine aV (vAgg [_, _, _, _, _, _, _, _, _, _, _, _] rfl rfl rfl (by repeat constructor) rfl) ?_
         refine aW0 (wStore (cs := [_, _, _, _, _, _, _, _, _, _, _, _]) rfl rfl rfl rfl rfl rfl rfl (by repeat constructor) rfl rfl) ?_
         refine s7 ?_
         refine aDecF ?_ (fun h => h rfl)
         refine s3 ?_
         refine aCB (fun w hw => refSameRuling 0 0 [] none 0 0 0 [] none 0 w (Arr.nil w) (fun p hp => by cases hp) (Arr.nil w) (fun p hp => by cases hp)) ?_
         refine aDecT ?_ ⟨rfl, rfl, rfl⟩
         refine s6 ?_
         exact xE (e, z) ⟨hok, hn, hP, hce⟩
    ·rintro ⟨e3, z3⟩ ⟨hok3, hn3, hP3, hce3⟩
     dsimp only at hok3 hn3 hP3 hce3 ⊢
     refine s3 ?_
     refine aV (vAgg [_, _, _, _, _, _, _, _, _, _, _, _] rfl rfl rfl (by repeat constructor) rfl) ?_
     refine aCB (fun w hw => alike_any b25 e3 z3 w (hw.ok (grpB (endI b25 e3)) (by repeat constructor)).1.1 hok3 hn3 hP3 (hw.ok (rfU z3) (by repeat constructor)).1) ?_
     refine s7 ?_
     refine kJ [(3, _), (9, _), (12, _), (13, _)] ?_
     refine s5 ?_
     exact xR (k + 1, e3, z3) ⟨by dsimp only; omega, hok3, hn3, hP3, hce3⟩ (by dsimp only; omega) (hl := ⟨rfl, rfl, rfl, (congrArg some (by go_num)), trivial⟩)
   ·refine s9 ?_
    refine kJ [] ?_
    refine s1 ?_
    refine aCB (fun w hw => awake_any w) ?_
    refine s4 ?_
    refine JR_one rfl (rr_tmp rfl) ?_
    intro w' hw
    exact ⟨rfl, hw.bel⟩
  ·refine kJ [(1, _), (2, _), (3, _), (4, _)] ?_
   refine s4 ?_
   refine aCB (fun w hw => (New_any (⟨kf, kt, ks, ke, kp⟩ : Cd) first power w).mono (fun _ _ h => by unfold RetNew at h; rw [if_neg hg] at h; exact h)) ?_
   refine s8 ?_
   refine kJ [(1, _), (2, _), (3, _), (4, _), (9, _), (10, _)] ?_
   refine s4 ?_
   refine aCB (fun w hw => refGood (⟨kf, kt, ks, ke, kp⟩ : Cd) first power w) ?_
   refine s5 ?_
   refine kJ [(1, _), (2, _), (3, _), (4, _), (9, _), (10, _), (11, _)] ?_
   refine s4 ?_
   refine aDecF ?_ (fun h => h rfl)
   refine s2 ?_
   refine aP (pNeqP (by kernel_rfl) rfl rfl) ?_
   refine aBoolF ?_ rfl
   refine s2 ?_
   refine aDecF ?_ hg
   refine aP (pNeqB rfl rfl rfl) ?_
   refine aDecF ?_ (fun h => h rfl)
   refine s8 ?_
   refine kJ [(1, _), (2, _), (3, _), (4, _), (9, _), (11, _)] ?_
   refine s3 ?_
   refine aDecT ?_ hg
   refine s4 ?_
   refine kJ [] ?_
   refine s1 ?_
   refine aCB (fun w hw => awake_any w) ?_
   refine s5 ?_
   refine JR_one rfl (rr_tmp rfl) ?_
   intro w' hw
   exact ⟨rfl, hw.bel⟩
end Go.Proofs.YtomcpgdpjpjioaaGreat
/- RulesPlays: the row: for every input, the law answers true and its input reads as it did. No condition. -/
namespace Go.Proofs.YtomcpgdpjpjioaaGreat
open Go.ChangeShapes Go.WideShapes Go.ChangeAt Go.RowKit Go.ChangeMaps

set_option maxRecDepth 100000 in
theorem RulesPlays_lifted (os : Os) (started : os.Started) (H : Type) (enc : TypeId × Value → H) :
    ReturnsInHanded {} Tryz.checked os 4 .any (Rows.rulesPlaysSpec.pre6 enc Tryz.prog Tryz.f4 Rows.rulesPlaysRow.domain false) (Rows.rulesPlaysSpec.post enc Tryz.prog Tryz.f4 false true false false) := by
  refine returnsInHanded_of_change (C := Tryz.checked) (show ownKnob Tryz.prog.godebug = none by kernel_rfl) started (by kernel_rfl) Tryz.func4
    (ChangeSpec.witness6 (enc := enc) (C := Tryz.checked) false ⟨#[], #[.agg #[.int .i64 0, .int .i64 0, .int .i64 0, .int .i64 0, .bool false], .int .i64 0, .int .i64 0, .slice none 0 0], []⟩ 8 (by kernel_rfl) (by kernel_rfl) (by kernel_rfl) (by kernel_rfl)) ?_
  intro W base args ds gs before hval0 hW hcnd _
  have hval : ∀ (j : Nat) t v, Tryz.f4.params[j]? = some t → args[j]? = some v → Value.okWide Tryz.prog W .any base t v := hval0
  have hW' := hW
  obtain ⟨p, q, hA0, hV, rfl, _, _⟩ := hW
  have hA : DataW.TrodAll enc Tryz.prog W 0 (fun _ => true) true Tryz.f4.params.toList args.toList ds p := hA0
  rw [Tryz.params4] at hA hval
  obtain ⟨v0, vs0, d0, ds0, p0, q0, hargs, rfl, rfl, h0, r0⟩ := trodAll_cons hA
  obtain ⟨v1, vs1, d1, ds1, p1, q1, rfl, rfl, rfl, h1, r1⟩ := trodAll_cons r0
  obtain ⟨v2, vs2, d2, ds2, p2, q2, rfl, rfl, rfl, h2, r2⟩ := trodAll_cons r1
  obtain ⟨v3, vs3, d3, ds3, p3, q3, rfl, rfl, rfl, h3, r3⟩ := trodAll_cons r2
  obtain ⟨rfl, rfl, rfl⟩ := trodAll_nil r3
  obtain rfl : args = #[v0, v1, v2, v3] := by cases args; simp_all
  obtain ⟨rfl, rfl⟩ := trodVars_none hV
  obtain ⟨a0, rfl, again0⟩ := open_code (hval 0 23 v0 rfl rfl) h0
  obtain ⟨a1, rfl, again1⟩ := open_num (hval 1 3 v1 rfl rfl) h1
  obtain ⟨a2, rfl, again2⟩ := open_num (hval 2 3 v2 rfl rfl) h2
  obtain ⟨A3, l3, k3, rfl, st3, x3, again3⟩ := open_acts (hval 3 52 v3 rfl rfl) h3
  clear hA0 hval0
  simp only [List.append_nil] at hW'
  refine (Plays_law a0 a1 a2 l3 A3 k3 W st3 x3).mono fun e W' ⟨he, hb⟩ => ?_
  subst he
  exact ⟨_, rfl, _, _, _, [], _, [], hW', trodAll_mk1 (shut_bool Tryz.underlying4 _), (trodAll_cons_mk (again0 W' hb _ (fun q hq => by simpa using hW'.lt q (by simp [hq]))) (trodAll_cons_mk (again1 W' hb _ (fun q hq => by simpa using hW'.lt q (by simp [hq]))) (trodAll_cons_mk (again2 W' hb _ (fun q hq => by simpa using hW'.lt q (by simp [hq]))) (trodAll_cons_mk (again3 W' hb _ (fun q hq => by simpa using hW'.lt q (by simp [hq]))) trodAll_mk0)))), rfl, hb.frame _, fun h => by cases h⟩

theorem RulesPlays_holds : Rows.RulesPlaysSaid :=
  OpenClaim.holds_of_wide 4 Tryz.f4 rfl rfl rfl rfl rfl rfl rfl ⟨rfl, rfl, rfl, rfl, rfl⟩ rfl rfl rfl rfl rfl (by kernel_rfl) Tryz.func4 (by kernel_rfl)
    (of_decide_eq_true (by kernel_rfl)) (by unfold Func.isWrapper; first | (rw [if_pos (by decide +kernel)]; kernel_rfl) | (rw [if_neg (by decide +kernel)]; exact ⟨rfl, rfl⟩))
    (fun os started H enc _ => RulesPlays_lifted os started H enc)
end Go.Proofs.YtomcpgdpjpjioaaGreat
