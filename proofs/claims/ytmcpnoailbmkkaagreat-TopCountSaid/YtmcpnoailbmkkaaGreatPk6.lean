/- Layers of the proofs, joined: Tf Md G25 Me Mg Shc Mh Shl Mi. -/
import Derived.Test.YtmcpnoailbmkkaaGreatPk5
import Derived.Shelf.SlSortCmp.WholeK
import Derived.Ground.SlsfProg
import Derived.Shelf.SlGeneric
import Derived.Test.YtmcpnoailbmkkaaGreatProg
import Derived.Shelf.Small.Bits
import Derived.Shelf.Strconv.Itoa0
import Derived.Shelf.Bits.Mul64
/- Layer 2: Count. -/
namespace Go.Proofs.YtmcpnoailbmkkaaGreat
open Go Go.RowKit Go.Proofs
attribute [local irreducible] J JQ JL JA JD

def PrN (f : FuncId) (caps : Array Value) (p : Nat → Bool) (l : List Nat) (w0 : World) : Prop := ∀ x ∈ l, ∀ W, Below w0.heap.size w0 W → Calls Tryz.prog f (#[] ++ #[.int .i64 (x : Nat)] ++ caps) W (Back (.bool (p x)) W)
theorem teamAt_get {l : List St} {i : Nat} {x : St} (h : i < l.length) (hx : l[i]'h = x) : teamAt l i = x.t := by
 unfold teamAt; rw [List.getD_eq_getElem?_getD, List.getElem?_eq_getElem h, hx]; rfl
set_option maxRecDepth 100000 in
set_option maxHeartbeats 4000000 in
theorem IndexFuncN (f : FuncId) (caps : Array Value) (p : Nat → Bool) (l : List Nat) (v : Value) (w : World) [hf : Cf Tryz.prog f] (hcl : PrN f caps p l w) (hrow : Arr 1 eN w v l) : Calls Tryz.prog 18 #[v, .func (.func f) #[] caps] w (Back (.int .i64 (fidx p l)) w) := by
 have hrow0 := hrow
 obtain ⟨A, cap, rfl, -, ⟨hl, -⟩, hA⟩ := hrow
 refine J_enter (fun _ => False) (vs := [.slice A l.length cap, .func (.func f) #[] caps]) (k := 17) (l := [(0, .slice A l.length cap), (1, .func (.func f) #[] caps)]) Tryz.func18 rfl rfl Tryz.ntmps18 rfl rfl (Wd.start _) ?_
 refine s14 ?_
 refine xL (T := Nat) (fun k => k ≤ l.length ∧ ∀ j (hj : j < l.length), j < k → p (l[j]'hj) = false) (fun k => [(0, .slice A l.length cap), (1, .func (.func f) #[] caps), (7, .int .i64 (l.length : Nat)), (8, .int .i64 (k : Nat))]) (fun k => []) (fun k => l.length - k) 0 ⟨Nat.zero_le _, fun j _ h => absurd h (Nat.not_lt_zero _)⟩ ?_
 rintro k ⟨hk, hall⟩
 refine s3 ?_
 refine JL_dec (fun h9 => ?_) (fun h9 => ?_)
 ·refine s15 ?_
  have hltx : k < l.length := by omega
  obtain ⟨bx, qx, rfl, hh⟩ := hA (by intro e; subst e; simp at hltx)
  obtain ⟨x, hx⟩ : ∃ y, l[k]'hltx = y := ⟨_, rfl⟩
  have hmx : x ∈ l := by rw [← hx]; exact List.getElem_mem _
  refine s5 ?_
  refine aV (vHold (v := .int .i64 (x : Nat)) rfl rfl (fun h => h) hh hltx (by omega) (by rw [hx]; rfl)) ?_
  refine aW (ow_callB (ec_val rfl rfl rfl Cf.h) rfl rfl (fun w hw => hcl x hmx w hw.bel)) (fun _ _ => ?_)
  refine JL_bool (fun h16 => ?_) (fun h16 => ?_)
  ·refine s4 ?_
   refine kJ [(5, _)] ?_
   refine s11 ?_
   refine JR_one rfl (rr_tmp rfl) ?_
   intro w' hw
   exact ⟨by rw [fidx_at hltx (by rw [hx]; exact h16) (fun j hj => hall j (by omega) hj)], hw.bel⟩
  ·refine s6 ?_
   refine kJ [(0, _), (1, _), (7, _), (8, _)] ?_
   refine s4 ?_
   have hn : ∀ j (hj : j < l.length), j < k + 1 → p (l[j]'hj) = false := fun j hj hjk => by
    rcases Nat.lt_or_ge j k with h | h
    ·exact hall j hj h
    ·obtain rfl : j = k := by omega
     rw [hx]; exact h16
   exact xR (k + 1) ⟨by omega, hn⟩ (by omega) (hl := ⟨rfl, rfl, rfl, (congrArg some (by go_num)), trivial⟩)
 ·refine s10 ?_
  refine kJ [] ?_
  refine s5 ?_
  refine JR_one rfl (rr_tmp rfl) ?_
  intro w' hw
  exact ⟨by rw [fidx_none (fun j hj => hall j hj (by omega))], hw.bel⟩
set_option maxRecDepth 100000 in
set_option maxHeartbeats 4000000 in
theorem cnt1_any (l : List St) (A : Option Addr) (cap b b2 : Nat) (T : Int) (i : Nat) (w : World) (hc : (cellB b [.slice A l.length cap] 22).holds w) (hc2 : (cellB b2 [.int .i64 T] 3).holds w) (hrow : Arr 4 eT w (.slice A l.length cap) l) (hi : i < l.length) : Calls Tryz.prog 19 (#[] ++ #[.int .i64 (i : Nat)] ++ #[.pointer (some ⟨b, 0, none⟩), .pointer (some ⟨b2, 0, none⟩)]) w (Back (.bool (decide (teamAt l i ≠ T))) w) := by
 obtain ⟨A', cap', e0, -, ⟨hl, -⟩, hAl⟩ := hrow
 obtain ⟨rfl, -, rfl⟩ : A = A' ∧ True ∧ cap = cap' := by injection e0 with e1 _ e3; exact ⟨e1, trivial, e3⟩
 obtain ⟨bx, qx, rfl, hh⟩ := hAl (by intro e; subst e; simp at hi)
 have hltx : i < l.length := hi
 obtain ⟨⟨xt, xn, xx, xy⟩, hx⟩ : ∃ y, l[i]'hltx = y := ⟨_, rfl⟩
 have hmx : (⟨xt, xn, xx, xy⟩ : St) ∈ l := by rw [← hx]; exact List.getElem_mem _
 refine J_enter (fun _ => False) (vs := [.int .i64 (i : Nat), .pointer (some ⟨b, 0, none⟩), .pointer (some ⟨b2, 0, none⟩)]) (k := 9) (l := [(0, .int .i64 (i : Nat)), (1, .pointer (some ⟨b, 0, none⟩)), (2, .pointer (some ⟨b2, 0, none⟩))]) Tryz.func19 rfl rfl Tryz.ntmps19 rfl rfl (Wd.start _) ?_
 refine s6 ?_
 refine xD [0, 1, 2, 3, 4, 5, 6, 7] [0, 4, 5] ?_
 refine dL rfl (vOld rfl rfl (fun h => h) (cellB_get hc rfl)) ?_
 refine s1 ?_
 refine dP rfl (pIdxI (i) rfl rfl rfl) ?_
 refine s1 ?_
 refine dL rfl (vHold (v := .int .i64 xt) rfl rfl (fun h => h) hh hltx (by omega) (by rw [hx]; rfl)) ?_
 refine dL rfl (vOld rfl rfl (fun h => h) (cellB_get hc2 rfl)) ?_
 refine s5 ?_
 refine JR_one rfl (rr_tmp rfl) ?_
 intro w' hw
 exact ⟨by rw [teamAt_get hltx hx], hw.bel⟩
/-- Who counts, how many; the error. -/
def cntF (l : List St) : Int × Int × Int := if chkB l = true then ((refT l).1, (refT l).2, 0) else (0, 0, 2)
theorem cnt_at {l : List St} {L : List Nat} {p q : Int} (hc : chkB l = true) (hL : NrP l L) (h : cntT l L = (p, q)) : Value.tuple #[.int .i64 p, .int .i64 q, .int .i64 0] = .tuple #[.int .i64 (cntF l).1, .int .i64 (cntF l).2.1, .int .i64 (cntF l).2.2] := by
 have h1 := cnt_ref hL (fun i hi => by
  have hi2 := hsA_mem (hL.1.mem_iff.1 hi)
  have h2 := (chk_facts hc).2 i hi2
  rw [teamAt_get hi2 rfl]
  unfold okSt at h2
  omega)
 unfold cntF
 rw [if_pos hc, ← h1, h]
theorem bne_dec (l : List St) (T : Int) : (fun i => teamAt l i != T) = fun i => decide (teamAt l i ≠ T) := by
 funext i
 by_cases h : teamAt l i = T
 ·simp [h]
 ·simp [h]
set_option maxRecDepth 100000 in
set_option maxHeartbeats 4000000 in
theorem Count_any (l : List St) (v : Value) (w : World) (hrow : Arr 4 eT w v l) : Calls Tryz.prog 5 #[v] w (Back (.tuple #[.int .i64 (cntF l).1, .int .i64 (cntF l).2.1, .int .i64 (cntF l).2.2]) w) := by
 have hrow0 := hrow
 obtain ⟨A, cap, rfl, -, ⟨hl, -⟩, hA⟩ := hrow
 refine J_enter (fun _ => False) (vs := [.slice A l.length cap]) (k := 61) (l := [(0, .slice A l.length cap)]) Tryz.func5 rfl rfl Tryz.ntmps5 rfl rfl (Wd.start _) ?_
 refine s2 ?_
 refine aW (oX [_]) (fun b1 hb1 => ?_)
 refine aW oA (fun b2 hb2 => ?_)
 refine s8 ?_
 refine aCB (fun w hw => Check_any l _ w (hrow0.up ET hw.bel)) ?_
 refine JL_bool (fun h9 => ?_) (fun h9 => ?_)
 ·refine s7 ?_
  have hl16 := (chk_facts h9).1
  have okm : ∀ s ∈ l, okSt s := fun s hs => by
   obtain ⟨j, hj, rfl⟩ := List.getElem_of_mem hs
   exact (chk_facts h9).2 j hj
  refine kJ [(1, _), (2, _), (3, _)] ?_
  refine s2 ?_
  refine aW (oR (fun w hw => nearest_any l _ w (hrow0.up ET hw.bel) (fun s hs => (okm s hs).2.1) (fun s hs => (okm s hs).2.2) (by omega))) (fun t12 ht12 => ?_)
  obtain ⟨L, lA, lc⟩ := t12
  dsimp only at ht12 ⊢
  have hL := ht12
  refine s9 ?_
  refine JL_dec (fun h15 => ?_) (fun h15 => ?_)
  ·refine s4 ?_
   refine kJ [(2, _)] ?_
   refine s8 ?_
   refine JR_three rfl (rr_cell rfl Agg.h (by repeat constructor) (by rfl)) (rr_tmp rfl) (rr_tmp rfl) ?_
   intro w' hw
   obtain rfl : L = [] := List.length_eq_zero_iff.1 (by omega)
   exact ⟨congrArg Ending.returned (cnt_at h9 hL (p := -1) (q := 0) rfl), hw.bel⟩
  ·refine s6 ?_
   obtain ⟨a, ds, rfl⟩ : ∃ a ds, L = a :: ds := by
    cases L with
    | nil => exact absurd rfl h15
    | cons a ds => exact ⟨a, ds, rfl⟩
   refine J_fact (fun hw => ?_)
   obtain ⟨g, rfl⟩ := own_some hw (ty := 3) (k := 1) (m := (a :: ds).length) (c := lc) (A := lA) (xs := (a :: ds).flatMap eN) (by repeat constructor) (by simp)
   clear hw
   have hLl : ∀ i ∈ a :: ds, i < l.length := fun i hi => hsA_mem (hL.1.mem_iff.1 hi)
   have hal : a < l.length := hLl a (by simp)
   obtain ⟨bx, qx, rfl, hh⟩ := hA (by intro e; subst e; simp at hal)
   obtain ⟨⟨xt, xn, xx, xy⟩, hx⟩ : ∃ y, l[a]'hal = y := ⟨_, rfl⟩
   have hta : teamAt l a = xt := teamAt_get hal hx
   have hL0 : 0 < (a :: ds).length := by simp
   have hL16 : (a :: ds).length ≤ 16 := by rw [hL.1.length_eq]; have := hsN_len l l.length; unfold hsA; omega
   refine kJ [(1, _), (2, _), (3, _), (5, _)] ?_
   refine xDx [0, 1, 2, 3, 4, 5, 6, 7] [] [0, 3, 6] [cellB b1 [.slice (some ⟨bx, qx, none⟩) l.length cap] 22, ownB 3 1 (some ⟨g, 0, none⟩) (a :: ds).length lc ((a :: ds).flatMap eN)] ?_
   refine s2 ?_
   refine dP rfl (pIdxI (0) rfl rfl rfl rfl) ?_
   refine dX rfl (vOwn (v := .int .i64 (a : Nat)) EN (L := a :: ds) (j := 0) rfl rfl (by repeat constructor) (by simp) (by omega) rfl) ?_
   refine dP rfl (pIdxI (a) rfl rfl rfl) ?_
   refine s1 ?_
   refine dX rfl (vHold (v := .int .i64 xt) rfl rfl (fun h => h) hh hal (by omega) (by rw [hx]; rfl)) ?_
   refine s4 ?_
   refine kJ [(1, _), (2, _), (3, _), (5, _)] ?_
   refine s3 ?_
   refine aCB (fun w hw => IndexFuncN 19 #[.pointer (some ⟨b1, 0, none⟩), .pointer (some ⟨b2, 0, none⟩)] (fun i => decide (teamAt l i ≠ xt)) (a :: ds) _ w (fun i hi W hW => cnt1_any l (some ⟨bx, qx, none⟩) cap b1 b2 xt i W ((hw.up hW).ok (cellB b1 [.slice (some ⟨bx, qx, none⟩) l.length cap] 22) (by repeat constructor)).1 ((hw.up hW).ok (cellB b2 [.int .i64 (xt)] 3) (by repeat constructor)).1 (hrow0.up ET (hw.up hW).bel) (hLl i hi)) (own_arr (A := some ⟨g, 0, none⟩) (c := lc) EN hw (by repeat constructor) (by omega))) ?_
   refine s8 ?_
   refine JL_dec (fun h27 => ?_) (fun h27 => ?_)
   ·refine s4 ?_
    refine kJ [(2, _), (5, _)] ?_
    refine s11 ?_
    refine JR_three rfl (rr_cell rfl Agg.h (by repeat constructor) (by rfl)) (rr_tmp rfl) (rr_tmp rfl) ?_
    intro w' hw
    exact ⟨congrArg Ending.returned (cnt_at h9 hL (p := xt) (q := (((a :: ds).length : Nat) : Int)) (by unfold cntT; dsimp only; rw [hta, bne_dec, if_pos h27])), hw.bel⟩
   ·refine s6 ?_
    rcases fidx_two (fun i => decide (teamAt l i ≠ xt)) (a :: ds) with ⟨hfm, -⟩ | ⟨m, hm, hfm, -, -⟩
    ·exact absurd (by rw [hfm]; decide) h27
    rw [hfm]
    obtain ⟨far, hfar⟩ : ∃ far, sqAt l ((a :: ds)[m]'hm) = far := ⟨_, rfl⟩
    obtain ⟨u, hu⟩ : ∃ u, (a :: ds)[m]'hm = u := ⟨_, rfl⟩
    have hul : u < l.length := hLl u (by rw [← hu]; exact List.getElem_mem _)
    obtain ⟨⟨yt, yn, yx, yy⟩, hy⟩ : ∃ y, l[u]'hul = y := ⟨_, rfl⟩
    have hmy : (⟨yt, yn, yx, yy⟩ : St) ∈ l := by rw [← hy]; exact List.getElem_mem _
    have hfy : sqd yx yy = far := by rw [← hfar, hu, sqAt_get hul hy]
    refine kJ [(1, _), (2, _), (3, _), (5, _), (6, _)] ?_
    refine xD [0, 1, 2, 3, 4, 5, 6, 7, 8, 9] [0, 4, 7] ?_
    refine s3 ?_
    refine dP rfl (pIdxI (m) rfl rfl rfl) ?_
    refine dL rfl (vOwn (v := .int .i64 (u : Nat)) EN (L := a :: ds) (j := m) rfl rfl (by repeat constructor) hm (by omega) (by rw [hu]; rfl)) ?_
    refine dP rfl (pIdxI (u) rfl rfl rfl) ?_
    refine s1 ?_
    refine dL rfl (vHoldP (i := 2) (m := 2) (cs := [.int .i64 yx, .int .i64 yy]) rfl rfl (fun h => h) hh hul rfl (by omega) (by rw [hy]; rfl)) ?_
    refine dCB rfl (fun w hw => square_any yx yy (play_bound (okm _ hmy).2.2) w) ?_
    refine s5 ?_
    refine xL (T := Nat) (fun k => k ≤ m ∧ ∀ j (hj : j < (a :: ds).length), j < k → sqAt l ((a :: ds)[j]'hj) < far) (fun k => [(1, .pointer (some ⟨b1, 0, none⟩)), (2, .pointer (some ⟨b2, 0, none⟩)), (3, .int .i64 (k : Nat)), (5, .slice (some ⟨g, 0, none⟩) (a :: ds).length lc), (6, .int .i64 (m : Nat)), (7, .int .i64 far)]) (fun k => [cellB b1 [.slice (some ⟨bx, qx, none⟩) l.length cap] 22, cellB b2 [.int .i64 (xt)] 3, ownB 3 1 (some ⟨g, 0, none⟩) (a :: ds).length lc ((a :: ds).flatMap eN)]) (fun k => m - k) 0 ⟨Nat.zero_le _, fun j _ h => absurd h (Nat.not_lt_zero _)⟩ ?_ (hl := ⟨rfl, rfl, rfl, rfl, rfl, (by rw [hfy]; rfl), trivial⟩)
    rintro k ⟨hkm, hall⟩
    refine s2 ?_
    by_cases hkm2 : k < m
    ·have hkd : k < (a :: ds).length := by omega
     obtain ⟨v, hv⟩ : ∃ v, (a :: ds)[k]'hkd = v := ⟨_, rfl⟩
     have hvl : v < l.length := hLl v (by rw [← hv]; exact List.getElem_mem _)
     obtain ⟨⟨zt, zn, zx, zy⟩, hz⟩ : ∃ y, l[v]'hvl = y := ⟨_, rfl⟩
     have hmz : (⟨zt, zn, zx, zy⟩ : St) ∈ l := by rw [← hz]; exact List.getElem_mem _
     refine xD [0, 1, 2, 3, 4, 5, 6, 7, 8, 9, 10, 11, 13, 12, 14] [4, 8, 11] ?_
     refine s3 ?_
     refine dDecT ?_ (by omega)
     refine s4 ?_
     refine dP rfl (pIdxI (k) rfl rfl rfl) ?_
     refine dL rfl (vOwn (v := .int .i64 (v : Nat)) EN (L := a :: ds) (j := k) rfl rfl (by repeat constructor) hkd (by omega) (by rw [hv]; rfl)) ?_
     refine dP rfl (pIdxI (v) rfl rfl rfl) ?_
     refine s1 ?_
     refine dL rfl (vHoldP (i := 2) (m := 2) (cs := [.int .i64 zx, .int .i64 zy]) rfl rfl (fun h => h) hh hvl rfl (by omega) (by rw [hz]; rfl)) ?_
     refine s1 ?_
     refine dCB rfl (fun w hw => square_any zx zy (play_bound (okm _ hmz).2.2) w) ?_
     refine s1 ?_
     refine dDec (fun h54 => ?_) (fun h54 => ?_)
     ·refine dO [15] ?_
      refine s7 ?_
      refine kJ [(1, _), (2, _), (3, _), (5, _), (6, _), (7, _)] ?_
      refine s6 ?_
      have hn : ∀ j (hj : j < (a :: ds).length), j < k + 1 → sqAt l ((a :: ds)[j]'hj) < far := fun j hj hjk => by
       rcases Nat.lt_or_ge j k with h | h
       ·exact hall j hj h
       ·obtain rfl : j = k := by omega
        rw [hv, sqAt_get hvl hz]; exact h54
      exact xR (k + 1) ⟨by omega, hn⟩ (by omega) (hl := ⟨rfl, rfl, (congrArg some (by go_num)), rfl, rfl, rfl, trivial⟩)
     ·refine dO [15] ?_
      refine s11 ?_
      refine kJ [(2, _), (3, _)] ?_
      refine s3 ?_
      refine JL_dec (fun h59 => ?_) (fun h59 => ?_)
      ·refine s12 ?_
       refine JR_three rfl (rr_cell rfl Agg.h (by repeat constructor) (by rfl)) (rr_tmp rfl) (rr_tmp rfl) ?_
       intro w' hw
       have hpt : ptsN l (a :: ds) m far = k := ptsN_at (by omega) hkm hall (.inr ⟨by omega, by rw [hv, sqAt_get hvl hz]; exact h54⟩)
       have hgd : (a :: ds).getD m 0 = u := by rw [List.getD_eq_getElem?_getD, List.getElem?_eq_getElem hm, hu]; rfl
       have hsu : sqAt l u = far := by rw [← hfar, hu]
       exact ⟨congrArg Ending.returned (cnt_at h9 hL (p := -1) (q := 0) (by unfold cntT; dsimp only; rw [hta, bne_dec, hfm, if_neg (by omega), Int.toNat_natCast, hgd, hsu, hpt, if_pos (by omega)])), hw.bel⟩
      ·refine s15 ?_
       refine JR_three rfl (rr_cell rfl Agg.h (by repeat constructor) (by rfl)) (rr_tmp rfl) (rr_tmp rfl) ?_
       intro w' hw
       have hpt : ptsN l (a :: ds) m far = k := ptsN_at (by omega) hkm hall (.inr ⟨by omega, by rw [hv, sqAt_get hvl hz]; exact h54⟩)
       have hgd : (a :: ds).getD m 0 = u := by rw [List.getD_eq_getElem?_getD, List.getElem?_eq_getElem hm, hu]; rfl
       have hsu : sqAt l u = far := by rw [← hfar, hu]
       exact ⟨congrArg Ending.returned (cnt_at h9 hL (p := xt) (q := ((k : Nat) : Int)) (by unfold cntT; dsimp only; rw [hta, bne_dec, hfm, if_neg (by omega), Int.toNat_natCast, hgd, hsu, hpt, if_neg (by omega)])), hw.bel⟩
    ·refine xD [0, 1, 2, 3, 4, 5, 6, 7, 8, 9, 10, 11, 12, 13, 14, 15] [4, 8, 11] ?_
     refine s3 ?_
     refine dDecF ?_ (by omega)
     refine s23 ?_
     refine kJ [(2, _), (3, _)] ?_
     refine s3 ?_
     refine JL_dec (fun h59 => ?_) (fun h59 => ?_)
     ·refine s12 ?_
      refine JR_three rfl (rr_cell rfl Agg.h (by repeat constructor) (by rfl)) (rr_tmp rfl) (rr_tmp rfl) ?_
      intro w' hw
      have hpt : ptsN l (a :: ds) m far = k := ptsN_at (by omega) hkm hall (.inl (by omega))
      have hgd : (a :: ds).getD m 0 = u := by rw [List.getD_eq_getElem?_getD, List.getElem?_eq_getElem hm, hu]; rfl
      have hsu : sqAt l u = far := by rw [← hfar, hu]
      exact ⟨congrArg Ending.returned (cnt_at h9 hL (p := -1) (q := 0) (by unfold cntT; dsimp only; rw [hta, bne_dec, hfm, if_neg (by omega), Int.toNat_natCast, hgd, hsu, hpt, if_pos (by omega)])), hw.bel⟩
     ·refine s15 ?_
      refine JR_three rfl (rr_cell rfl Agg.h (by repeat constructor) (by rfl)) (rr_tmp rfl) (rr_tmp rfl) ?_
      intro w' hw
      have hpt : ptsN l (a :: ds) m far = k := ptsN_at (by omega) hkm hall (.inl (by omega))
      have hgd : (a :: ds).getD m 0 = u := by rw [List.getD_eq_getElem?_getD, List.getElem?_eq_getElem hm, hu]; rfl
      have hsu : sqAt l u = far := by rw [← hfar, hu]
      exact ⟨congrArg Ending.returned (cnt_at h9 hL (p := xt) (q := ((k : Nat) : Int)) (by unfold cntT; dsimp only; rw [hta, bne_dec, hfm, if_neg (by omega), Int.toNat_natCast, hgd, hsu, hpt, if_neg (by omega)])), hw.bel⟩
 ·refine s5 ?_
  refine kJ [(2, _)] ?_
  refine s8 ?_
  refine JR_three rfl (rr_cell rfl Agg.h (by repeat constructor) (by rfl)) (rr_tmp rfl) (rr_tmp rfl) ?_
  intro w' hw
  exact ⟨by unfold cntF; rw [h9]; rfl, hw.bel⟩
end Go.Proofs.YtmcpnoailbmkkaaGreat
/- Layer 6: the bounds of both sides. -/
namespace Go.Proofs.YtmcpnoailbmkkaaGreat
open Go Go.RowKit Go.Proofs
attribute [local irreducible] J JQ JL JA JD

structure SdR where
 A : Option Addr
 c : Nat
 A0 : Option Addr
 c0 : Nat
 A1 : Option Addr
 c1 : Nat
/-- Why there are no bounds of the sides. -/
def sdE (l : List St) (rs : List Rdg) : Int := if 256 < rs.length then 3 else if mkB l = true then bndE l.length rs else 2
abbrev sdF (l : List St) (rs : List Rdg) (t : Int) : List Rdg := sdL l (bndL l.length rs) t l.length
theorem sdE_b {l : List St} {rs : List Rdg} (h : ¬ 256 < rs.length) (h2 : mkB l = true) : sdE l rs = bndE l.length rs := by unfold sdE; rw [if_neg h, if_pos h2]
set_option maxRecDepth 100000 in
set_option maxHeartbeats 4000000 in
theorem sides_ok (l : List St) (rs : List Rdg) (v v2 : Value) (w : World) (hrow : Arr 4 eT w v l) (hrs : Arr 3 eRd w v2 rs) (h : ¬ 256 < rs.length) (h2 : mkB l = true) (h3 : bndE l.length rs = 0) : Calls Tryz.prog 27 #[v, v2] w (Ret w (fun _ : SdR => True) (fun t => .tuple #[.slice t.A l.length t.c, .agg #[.slice t.A0 (sdF l rs 0).length t.c0, .slice t.A1 (sdF l rs 1).length t.c1], .int .i64 0]) (fun t => [ownB 47 3 t.A l.length t.c ((bndL l.length rs).flatMap eRd), ownB 47 3 t.A0 (sdF l rs 0).length t.c0 ((sdF l rs 0).flatMap eRd), ownB 47 3 t.A1 (sdF l rs 1).length t.c1 ((sdF l rs 1).flatMap eRd)])) := by
 have hrow0 := hrow
 have hrs0 := hrs
 obtain ⟨A, cap, rfl, -, ⟨hl9, -⟩, hA⟩ := hrow
 obtain ⟨A2, cap2, rfl, -, ⟨hl8, -⟩, hA2⟩ := hrs
 have hl16 := (mk_facts h2).1
 have hok := mk_facts h2
 obtain ⟨L, hL⟩ : ∃ L, bndL l.length rs = L := ⟨_, rfl⟩
 have hLn : L.length = l.length := by rw [← hL]; exact bndL_len _ _
 have hl16b := hl16
 refine J_enter (fun _ => False) (vs := [.slice A l.length cap, .slice A2 rs.length cap2]) (k := 55) (l := [(0, .slice A l.length cap), (1, .slice A2 rs.length cap2)]) Tryz.func27 rfl rfl Tryz.ntmps27 rfl rfl (Wd.start _) ?_
 refine s3 ?_
 refine aW oA (fun b5 hb5 => ?_)
 refine s9 ?_
 refine aDecF ?_ (by omega)
 refine s7 ?_
 refine kJ [(0, _), (1, _), (5, _)] ?_
 refine s2 ?_
 refine aCB (fun w hw => (mCheck_any l _ w (hrow0.up ET hw.bel)).mono (fun _ _ hh => by unfold mkE at hh; rw [if_pos h2] at hh; exact hh)) ?_
 refine s7 ?_
 refine aDecF ?_ (by decide)
 refine s7 ?_
 refine kJ [(0, _), (1, _), (5, _)] ?_
 refine s4 ?_
 refine aW (oR (fun w hw => (Bounds_any l.length rs _ w (by omega) (hrs0.up ERd hw.bel)).mono (fun _ _ hh => by unfold BnQ at hh; rw [if_pos h3, hL] at hh; exact hh))) (fun t24 _ => ?_)
 refine s1 ?_
 obtain ⟨vA, vc⟩ := t24
 dsimp only
 refine s7 ?_
 refine kJ [(0, _), (4, _), (5, _), (6, _)] ?_
 refine s3 ?_
 refine aDecF ?_ (by decide)
 refine s7 ?_
 refine J_own0 47 3 ?_
 refine J_own0 47 3 ?_
 refine s7 ?_
 refine xL (T := Nat × Option Addr × Nat × Option Addr × Nat) (fun q => q.1 ≤ l.length) (fun q => [(0, .slice A l.length cap), (4, .slice vA l.length vc), (5, .pointer (some ⟨b5, 0, none⟩)), (6, .int .i64 0), (31, .slice vA l.length vc), (32, .int .i64 (l.length : Nat)), (33, .int .i64 (q.1 : Nat))]) (fun q => [cellB b5 [.slice q.2.1 (sdL l L 0 q.1).length q.2.2.1, .slice q.2.2.2.1 (sdL l L 1 q.1).length q.2.2.2.2] 75, ownB 47 3 q.2.1 (sdL l L 0 q.1).length q.2.2.1 ((sdL l L 0 q.1).flatMap eRd), ownB 47 3 q.2.2.2.1 (sdL l L 1 q.1).length q.2.2.2.2 ((sdL l L 1 q.1).flatMap eRd), ownB 47 3 vA l.length vc ((L).flatMap eRd)]) (fun q => l.length - q.1) (0, none, 0, none, 0) (Nat.zero_le _) ?_
 rintro ⟨k, zA, zc, yA, yc⟩ hk
 dsimp only at hk ⊢
 have hn0 := sdL_len l L 0 k
 have hn1 := sdL_len l L 1 k
 refine s3 ?_
 refine JL_dec (fun h34 => ?_) (fun h34 => ?_)
 ·refine s9 ?_
  have hltx0 : k < l.length := by omega
  have hLl : L.length = l.length := hLn
  have hltx : k < L.length := by omega
  obtain ⟨⟨xi, xl, xh⟩, hx⟩ : ∃ y, L[k]'hltx = y := ⟨_, rfl⟩
  refine J_fact (fun hw => ?_)
  obtain ⟨g, rfl⟩ := own_some hw (ty := 47) (k := 3) (m := l.length) (c := vc) (A := vA) (xs := L.flatMap eRd) (by repeat constructor) (by omega)
  clear hw
  have hltz : k < l.length := by omega
  obtain ⟨bz, qz, rfl, hh⟩ := hA (by intro e; subst e; simp at hltz)
  obtain ⟨⟨zt, zn, zx, zy⟩, hz⟩ : ∃ y, l[k]'hltz = y := ⟨_, rfl⟩
  have hmz : (⟨zt, zn, zx, zy⟩ : St) ∈ l := by rw [← hz]; exact List.getElem_mem _
  have hsm := (hok.2 _ hmz).2.1
  dsimp only at hsm
  have hta0 : teamAt l k = zt := teamAt_get hltz hz
  refine s2 ?_
  refine aP (pIdxI (k) rfl rfl rfl) ?_
  refine aV (vOwnA (cs := [.int .i64 xi, .int .i64 xl, .int .i64 xh]) ERd (L := L) (j := k) rfl rfl (by repeat constructor) hltx (by rw [hx]; rfl)) ?_
  refine aW oA (fun b9 hb9 => ?_)
  refine s4 ?_
  rcases (show zt = 0 ∨ zt = 1 by omega) with rfl | rfl
  ·have hta := hta0
   refine kJ [(0, _), (4, _), (5, _), (6, _), (8, _), (9, _), (31, _), (32, _), (33, _)] ?_
   refine xDx [0, 1, 2, 3, 4, 5, 6, 7, 8, 9, 10, 11, 12, 13, 14, 15, 16] [11] [4, 9, 12] [cellB b9 [.int .i64 xi, .int .i64 xl, .int .i64 xh] 47] ?_
   refine s2 ?_
   refine dP rfl (pIdxI (k) rfl rfl rfl) ?_
   refine s1 ?_
   refine dX rfl (vHold (v := .int .i64 0) rfl rfl (fun h => h) hh hltz (by omega) (by rw [hz]; rfl)) ?_
   refine s2 ?_
   refine dP rfl (pIdxI (k) rfl rfl rfl) ?_
   refine s1 ?_
   refine dX rfl (vHold (v := .int .i64 0) rfl rfl (fun h => h) hh hltz (by omega) (by rw [hz]; rfl)) ?_
   refine dP rfl (rp_arrC rfl rfl rfl ia_75_0 rfl) ?_
   refine s2 ?_
   refine dW rfl (ow_sliceC (vs := [_, _, _]) (ty := 47) rfl rfl (by rfl) rfl rfl (fun _ => by kernel_rfl)) (fun b51 hb51 => ?_)
   refine dS rfl (oApp (sl := 74) ERd ((⟨xi, xl, xh⟩ : Rdg))) (fun A52 c52 => ?_)
   refine dP rfl (rp_arrC rfl rfl rfl ia_75_0 rfl) ?_
   refine s4 ?_
   refine kJ [(0, _), (4, _), (5, _), (6, _), (31, _), (32, _), (33, _)] ?_
   refine s4 ?_
   have hs0 := sdL_s (l := l) (t := 0) hltx hx
   have hs1 := sdL_s (l := l) (t := 1) hltx hx
   rw [hta] at hs0 hs1
   rw [if_pos rfl] at hs0
   rw [if_neg (by decide)] at hs1
   exact xR (k + 1, A52, c52, yA, yc) (by dsimp only; omega) (by dsimp only; omega) (hl := ⟨rfl, rfl, rfl, rfl, rfl, rfl, (congrArg some (by go_num)), trivial⟩) (hH := by (try dsimp only); rw [hs0, hs1]; repeat constructor)
  ·have hta := hta0
   refine kJ [(0, _), (4, _), (5, _), (6, _), (8, _), (9, _), (31, _), (32, _), (33, _)] ?_
   refine xDx [0, 1, 2, 3, 4, 5, 6, 7, 8, 9, 10, 11, 12, 13, 14, 15, 16] [11] [4, 9, 12] [cellB b9 [.int .i64 xi, .int .i64 xl, .int .i64 xh] 47] ?_
   refine s2 ?_
   refine dP rfl (pIdxI (k) rfl rfl rfl) ?_
   refine s1 ?_
   refine dX rfl (vHold (v := .int .i64 1) rfl rfl (fun h => h) hh hltz (by omega) (by rw [hz]; rfl)) ?_
   refine s2 ?_
   refine dP rfl (pIdxI (k) rfl rfl rfl) ?_
   refine s1 ?_
   refine dX rfl (vHold (v := .int .i64 1) rfl rfl (fun h => h) hh hltz (by omega) (by rw [hz]; rfl)) ?_
   refine dP rfl (rp_arrC rfl rfl rfl ia_75_1 rfl) ?_
   refine s2 ?_
   refine dW rfl (ow_sliceC (vs := [_, _, _]) (ty := 47) rfl rfl (by rfl) rfl rfl (fun _ => by kernel_rfl)) (fun b51 hb51 => ?_)
   refine dS rfl (oApp (sl := 74) ERd ((⟨xi, xl, xh⟩ : Rdg))) (fun A52 c52 => ?_)
   refine dP rfl (rp_arrC rfl rfl rfl ia_75_1 rfl) ?_
   refine s4 ?_
   refine kJ [(0, _), (4, _), (5, _), (6, _), (31, _), (32, _), (33, _)] ?_
   refine s4 ?_
   have hs0 := sdL_s (l := l) (t := 0) hltx hx
   have hs1 := sdL_s (l := l) (t := 1) hltx hx
   rw [hta] at hs0 hs1
   rw [if_neg (by decide)] at hs0
   rw [if_pos rfl] at hs1
   exact xR (k + 1, zA, zc, A52, c52) (by dsimp only; omega) (by dsimp only; omega) (hl := ⟨rfl, rfl, rfl, rfl, rfl, rfl, (congrArg some (by go_num)), trivial⟩) (hH := by (try dsimp only); rw [hs0, hs1]; repeat constructor)
 ·refine s10 ?_
  refine kJ [(4, _), (5, _)] ?_
  refine xD [0, 1, 2, 3, 4] [1] ?_
  refine s8 ?_
  refine JR_three rfl (rr_tmp rfl) (rr_agg (cs := [_, _]) rfl Agg.h (Siz.h (k := 2)) (by repeat constructor) (by rfl)) (rr_tmp rfl) ?_
  intro w' hw
  obtain rfl : l.length = k := by omega
  subst hL
  exact ⟨⟨vA, vc, zA, zc, yA, yc⟩, trivial, rfl, hw.pick (by repeat constructor)⟩
end Go.Proofs.YtmcpnoailbmkkaaGreat
/- A range over a function whose states have a beginning. Over any program. -/
namespace Go.Proofs.YtmcpnoailbmkkaaGreat
open Go Go.RowKit Go.Proofs Go.Shelf
attribute [local go_sem] Oper.semAt_some
section
variable {P : Program} {n : Nat} {B : Bs} {Q : Exit → Act → World → Prop} {l : Sl} {H H' : List It} {c : Code} {w w' : World}
/-- As Itr; ini: the states in which it begins. -/
def ItrI (P : Program) {T Y : Type} (f : FuncId) (caps : Array Value) (B : Bs) (φ : T → Prop) (HH : T → It → List It) (Yk : T → Y → Prop) (V : Y → Value) (HG : T → Y → It → List It) (Rn : T → T → Prop) (fin ini : T → Prop) : Prop :=
 ∀ (lp : Nat) (X : It) (t0 : T) (W : World), φ t0 → ini t0 → Wd B (HH t0 X) W →
  (∀ t y W1, φ t → Yk t y → Wd B (HG t y X) W1 → ∀ m, YieldAt Fence.wide m P lp #[V y] W1 (fun e W2 => e = .returned (.bool true) ∧ ∃ t', Rn t t' ∧ φ t' ∧ Wd B (HH t' X) W2)) →
  Calls P f (#[.func (.yield lp) #[] #[]] ++ caps) W (fun e W' => (∃ v, e = .returned v) ∧ ∃ t, φ t ∧ fin t ∧ Wd B (HH t X) W')
set_option maxHeartbeats 2000000 in
theorem J_rangeI {T Y : Type} {g : Operand} {p : Nat} {assign body : Code} {f : FuncId} {caps : Array Value} [hf : Cf P f] (φ : T → Prop) (HH : T → It → List It) (Yk : T → Y → Prop) (V : Y → Value) (HG : T → Y → It → List It) (Rn : T → T → Prop) (fin ini : T → Prop) {Ds : List Nat} (l1 : Y → Sl)
  (hit : ItrI P f caps ⟨B.w, B.m, none, []⟩ φ HH Yk V HG Rn fin ini) (t0 : T) (h0 : φ t0) (hi0 : ini t0)
  (has : ∀ lp t y X, φ t → Yk t y → J P n ⟨B.w, B.m, some lp, []⟩ assign (Exit.then (CutP n ⟨B.w, B.m, some lp, []⟩ (fun _ : Unit => True) (fun _ => l1 y) (fun _ => HG t y X)) (fun _ _ _ => False)) ((p, V y) :: l) (HG t y X))
  (hbd : ∀ lp t y X, φ t → Yk t y → J P n ⟨B.w, B.m, some lp, []⟩ body (Exit.then (CutP n ⟨B.w, B.m, some lp, []⟩ (fun t' => Rn t t' ∧ φ t') (fun _ => []) (fun t' => HH t' X)) (fun _ _ _ => False)) (l1 y) (HG t y X))
  (k : ∀ D t, φ t → fin t → JQ n ⟨B.w, B.m, none, (D :: Ds).map mark⟩ Q .normal l (HH t (defsB (D :: Ds))))
  (hr : B.r = none := by rfl) (hd : B.d = Ds.map mark := by rfl) (hg : evl l g = some (.func (.func f) #[] caps) := by rfl) (hp : Nat.ble n p = false := by rfl)
  (hH : Pk (HH t0 (defsB Ds)) H := by repeat constructor) (a1 : ∀ t A C, At A C (HH t A) (HH t C) := by intro t A C; repeat constructor) (a2 : ∀ t y A C, At A C (HG t y A) (HG t y C) := by intro t y A C; repeat constructor) :
  J P n B (.rangeFunc g #[p] assign body) Q l H := by
 intro a w ha hw m
 rw [hr]
 have hF := hf.h
 have hw0 : Wd ⟨B.w, B.m, none, []⟩ (HH t0 (defsB Ds)) w := (hw.pick hH).re _ _
 clear hw hH
 refine wpIn_rangeFunc ?_
 intro fn hfn
 obtain ⟨rec, hrec⟩ : ∃ rec : LoopState → Option Code → Loop, rec = fun st pe => { state := st, pending := pe, fn, tmps := a.tmps, params := #[p], assign, body, defers := w.heap.size } := ⟨_, rfl⟩
 obtain ⟨W1, hW1⟩ : ∃ W1, (w.alloc (.deferred (some []))).alloc (.loop (rec .ready none)) = W1 := ⟨_, rfl⟩
 have hL1 : W1.heap[w.heap.size + 1]? = some (.loop (rec .ready none)) := by
  rw [← hW1]; have := World.alloc_heap_new (w.alloc (.deferred (some []))) (.loop (rec .ready none)); rwa [World.size_alloc] at this
 have hK1 : W1.heap[w.heap.size]? = some (.deferred (some [])) := by
  rw [← hW1]; exact (Below.heap_alloc _ _ _ (by simp)).trans (World.alloc_heap_new w _)
 have hb1 : Below w.heap.size w W1 := by rw [← hW1]; exact ((Below.refl _ _).alloc (Nat.le_refl _) _).alloc (by simp) _
 have hz1 : W1.heap.size = w.heap.size + 2 := by rw [← hW1]; simp
 have hmem := (a1 t0 (defsB Ds) (defsB Ds)).mem
 have hD0 := hw0.ok _ hmem
 have hnew : w.heap.size ∉ Ds := fun h => Nat.lt_irrefl _ (hD0.2 _ h).2
 have hnew1 : w.heap.size + 1 ∉ Ds := fun h => by have := (hD0.2 _ h).2; omega
 have hw1 : Wd ⟨B.w, B.m, none, []⟩ (HH t0 (loopB (w.heap.size + 1) (rec .ready none) (w.heap.size :: Ds))) W1 := by
  refine hw0.chg (a1 t0 _ _) rfl rfl ⟨hb1.os, hb1.tape, hb1.output, hb1.size, fun b hb _ => hb1.block b hb⟩ ⟨by simp [hnew1], List.nodup_cons.2 ⟨hnew, hD0.1.1⟩, hL1, fun D hD => ?_⟩ (fun b hb => ?_)
  ·rcases List.mem_cons.1 hD with rfl | hD
   ·exact hK1
   ·exact (hb1.block D (hD0.2 D hD).2).trans (hD0.1.2 D hD)
  ·rcases hb with rfl | hb
   ·exact ⟨.inr (by omega), by omega⟩
   ·rcases List.mem_cons.1 hb with rfl | hb
    ·exact ⟨.inr (Nat.le_refl _), by omega⟩
    ·exact ⟨.inl hb, by have := (hD0.2 b hb).2; omega⟩
 refine ⟨w.heap.size + 1, [mark w.heap.size], W1, { target := .fn (.func f) caps, args := #[.func (.yield (w.heap.size + 1)) #[] #[]] }, W1, f,
  #[.func (.yield (w.heap.size + 1)) #[] #[]] ++ caps, W1, ?_, ?_, ?_, ?_, fun h => (by cases h), ?_⟩
 ·rw [← hW1, hrec]; exact run_enterLoop_outer _ _ _ _ _
 ·simp only [resolve, ha.evD hg]
  simp [go_sem]
 ·intro f' _; exact trivial
 ·simp [invoke, go_sem, hF]
 refine (callsIn_wide.2 (hit (w.heap.size + 1) (loopB (w.heap.size + 1) (rec .ready none) (w.heap.size :: Ds)) t0 W1 h0 hi0 hw1 ?_)).mono ?_
 ·intro t y W ht hy hwW m'
  have hX := (hwW.ok _ (a2 t y (loopB (w.heap.size + 1) (rec .ready none) (w.heap.size :: Ds)) (loopB (w.heap.size + 1) (rec .ready none) (w.heap.size :: Ds))).mem).1
  have hl := hX.2.2.1
  have hy1 := run_yield (P := P) (args := #[V y]) hl (by rw [hrec]; simp)
  rw [hrec] at hy1
  refine ⟨fn, _, assign, body, hy1, roundIn_of_wpIn trivial ?_⟩
  have hfr : Fr n ((p, V y) :: l) { tmps := a.tmps.setIfInBounds p (V y), defers := [] } := by
   have h := ha.put p (V y) hp
   exact ⟨h.size, rfl, h.get⟩
  have hA := has (w.heap.size + 1) t y _ ht hy _ W hfr hwW.un m'
  refine wpIn_mono (Q := NO _) (by simpa [Bs.df, wr, Fence.inRound] using hA) ?_
  intro e a2' w2 hq
  cases e with
  | normal =>
   obtain ⟨_, -, a0, rfl, hf0, hw2⟩ := hq
   have hX2 := (hw2.ok _ (a2 t y (loopB (w.heap.size + 1) (rec .ready none) (w.heap.size :: Ds)) (loopB (w.heap.size + 1) (rec .ready none) (w.heap.size :: Ds))).mem).1
   refine ⟨_, run_beginRound hX2.2.2.1 (by rw [hrec]), ?_⟩
   have hw3 := hw2.loop (L' := { rec .ready none with state := .busy }) (a2 t y _ _)
   refine wpIn_mono (hbd (w.heap.size + 1) t y _ ht hy a0 _ hf0 hw3 m') ?_
   intro e a3 w4 hq
   cases e with
   | normal =>
    obtain ⟨t', ⟨hR, hφ⟩, a4, rfl, -, hw5⟩ := hq
    have hX5 := (hw5.ok _ (a1 t' (loopB (w.heap.size + 1) { rec .ready none with state := .busy } (w.heap.size :: Ds)) (loopB (w.heap.size + 1) { rec .ready none with state := .busy } (w.heap.size :: Ds))).mem).1
    refine ⟨_, _, run_endRound none hX5.2.2.1, rfl, t', hR, hφ, ?_⟩
    have := hw5.loop (L' := rec .ready none) (a1 t' _ _)
    rw [hrec] at this ⊢
    exact this.un
   | _ => exact hq.elim
  | _ => exact hq.elim
 ·rintro e W2 ⟨⟨u, rfl⟩, t, hφ, hfin, hw2⟩
  have hX2 := (hw2.ok _ (a1 t (loopB (w.heap.size + 1) (rec .ready none) (w.heap.size :: Ds)) (loopB (w.heap.size + 1) (rec .ready none) (w.heap.size :: Ds))).mem).1
  refine ⟨none, _, (run_endLoop hX2.2.2.1 (by rw [hrec]; simp)).trans (by rw [hrec]), ?_⟩
  have hw3 := hw2.loop (L' := { rec .ready none with state := .exhausted }) (a1 t _ _)
  have hX3 := (hw3.ok _ (a1 t (loopB (w.heap.size + 1) { rec .ready none with state := .exhausted } (w.heap.size :: Ds)) (loopB (w.heap.size + 1) { rec .ready none with state := .exhausted } (w.heap.size :: Ds))).mem).1
  have hw4 := hw3.turn (a1 t _ (defsB (w.heap.size :: Ds))) (fun h => (by cases h)) ⟨hX3.2.1, hX3.2.2.2⟩ (fun b hb => .inr hb)
  have hk := k w.heap.size t hφ hfin a _ ha (by rw [hrec] at hw4; exact hw4.un)
  show Q .normal _ _
  have e : ({ B.df a with defers := [mark w.heap.size] ++ (B.df a).defers } : Act) = (⟨B.w, B.m, none, (w.heap.size :: Ds).map mark⟩ : Bs).df a := by
   simp [Bs.df, hd]
  rw [e]
  exact hk
/-! ### A function with such loops -/
end
end Go.Proofs.YtmcpnoailbmkkaaGreat
/- Layer 6: the limits up to which a side may score. -/
namespace Go.Proofs.YtmcpnoailbmkkaaGreat
open Go Go.RowKit Go.Proofs
attribute [local irreducible] J JQ JL JA JD

theorem mu_s {s : List Rdg} {k : Nat} {r : Rdg} {m : Int} (hk : k < s.length) (hr : s[k]'hk = r) : muN (s.take (k + 1)) m = muN (s.take k) m + if r.hi ≤ m then 1 else 0 := by
 unfold muN
 rw [List.take_succ_eq_append_getElem hk, List.countP_append, hr, List.countP_singleton]
 simp only [decide_eq_true_eq]
theorem ca_s {s : List Rdg} {k : Nat} {r : Rdg} {m : Int} (hk : k < s.length) (hr : s[k]'hk = r) : caN (s.take (k + 1)) m = caN (s.take k) m + if r.lo ≤ m then 1 else 0 := by
 unfold caN
 rw [List.take_succ_eq_append_getElem hk, List.countP_append, hr, List.countP_singleton]
 simp only [decide_eq_true_eq]
theorem mu_len (s : List Rdg) (m : Int) : muN s m ≤ s.length := List.countP_le_length
theorem ca_len (s : List Rdg) (m : Int) : caN s m ≤ s.length := List.countP_le_length
/-- Bounds that are some. -/
def rdOk (l : List Rdg) : Prop := ∀ r ∈ l, (0 ≤ r.lo ∧ r.lo ≤ r.hi) ∧ r.hi ≤ 70368744177664
theorem nr_bnd {l : List Rdg} (h : rdOk l) : (0 ≤ nrL l ∧ nrL l ≤ 129368065) ∧ 0 ≤ nrH l ∧ nrH l ≤ 129368064 := by
 obtain ⟨⟨a, -⟩, c⟩ := fold_min (fun r : Rdg => r.lo) l 129368065
 obtain ⟨⟨a2, -⟩, d⟩ := fold_min (fun r : Rdg => r.hi) l 129368064
 have e : nrL l = l.foldl (fun a r => min a r.lo) 129368065 := rfl
 have e2 : nrH l = l.foldl (fun a r => min a r.hi) 129368064 := rfl
 rw [← e] at a c
 rw [← e2] at a2 d
 constructor
 ·rcases c with c | ⟨r, hr, c⟩
  ·omega
  ·have := h r hr; omega
 ·rcases d with d | ⟨r, hr, d⟩
  ·omega
  ·have := h r hr; omega
def lmW (o : List Rdg) (d : Int) : Bool := decide (nrL o ≤ d ∧ d ≤ nrH o - 1)
def lmP (o : List Rdg) : List Int := if awB o = true then [129368064] else []
def lmR (s o : List Rdg) : List Int := (s.flatMap fun r => [r.lo, r.hi]).filter (lmW o)
theorem lim_gt {s o : List Rdg} (h : nrL o > nrH o) : limL s o = lmP o := by
 unfold limL
 rw [if_pos h, List.append_nil]; rfl
theorem lim_le {s o : List Rdg} (h : ¬ nrL o > nrH o) : limL s o = lmP o ++ (nrL o - 1) :: lmR s o := by
 unfold limL
 rw [if_neg h]; rfl
theorem lm_at {L D R : List Int} {d : Int} {n : Nat} (he : L = D ++ d :: R) (hn : D.length = n) : L[n]? = some d := by subst he hn; simp
theorem lm_nx {L D R : List Int} {d : Int} (he : L = D ++ d :: R) : L = (D ++ [d]) ++ R := by rw [he]; simp
theorem lmR_s {s o : List Rdg} {k : Nat} {r : Rdg} (hk : k < s.length) (hr : s[k]'hk = r) : lmR (s.drop k) o = ([r.lo, r.hi] : List Int).filter (lmW o) ++ lmR (s.drop (k + 1)) o := by
 unfold lmR
 rw [List.drop_eq_getElem_cons hk, hr, List.flatMap_cons, List.filter_append]
theorem lmW_in {o : List Rdg} {d : Int} (l : List Int) (h : nrL o ≤ d ∧ d ≤ nrH o - 1) : (d :: l).filter (lmW o) = d :: l.filter (lmW o) := List.filter_cons_of_pos (decide_eq_true h)
theorem lmW_out {o : List Rdg} {d : Int} (l : List Int) (h : ¬ (nrL o ≤ d ∧ d ≤ nrH o - 1)) : (d :: l).filter (lmW o) = l.filter (lmW o) := List.filter_cons_of_neg (by unfold lmW; rw [decide_eq_false h]; simp)
/-- The scores so far, by how many limits. -/
structure LmT where
 n : Nat
 S : List (Int × Int)
set_option maxRecDepth 100000 in
set_option maxHeartbeats 4000000 in
theorem up_any (s : List Rdg) (m : Int) (v : Value) (w : World) (hrow : Arr 3 eRd w v s) (hl : s.length ≤ 100) : Calls Tryz.prog 59 #[v, .int .i64 m] w (Back (.tuple #[.int .i64 ((muN s m : Nat) : Int), .int .i64 ((caN s m : Nat) : Int)]) w) := by
 obtain ⟨A, cap, rfl, -, ⟨hl9, -⟩, hA⟩ := hrow
 refine J_enter (fun _ => False) (vs := [.slice A s.length cap, .int .i64 m]) (k := 27) (l := [(0, .slice A s.length cap), (1, .int .i64 m)]) Tryz.func59 rfl rfl Tryz.ntmps59 rfl rfl (Wd.start _) ?_
 refine s15 ?_
 refine xL (T := Nat) (fun k => k ≤ s.length) (fun k => [(1, .int .i64 m), (4, .int .i64 ((muN (s.take k) m : Nat) : Int)), (5, .int .i64 ((caN (s.take k) m : Nat) : Int)), (8, .slice A s.length cap), (9, .int .i64 (s.length : Nat)), (10, .int .i64 (k : Nat))]) (fun k => []) (fun k => s.length - k) 0 (Nat.zero_le _) ?_
 rintro k hk
 have hmu := mu_len (s.take k) m
 have hca := ca_len (s.take k) m
 rw [List.length_take] at hmu hca
 refine s3 ?_
 refine JL_dec (fun h11 => ?_) (fun h11 => ?_)
 ·refine s9 ?_
  have hltx : k < s.length := by omega
  obtain ⟨bx, qx, rfl, hh⟩ := hA (by intro e; subst e; simp at hltx)
  obtain ⟨⟨xi, xl, xh⟩, hx⟩ : ∃ y, s[k]'hltx = y := ⟨_, rfl⟩
  have hmx : (⟨xi, xl, xh⟩ : Rdg) ∈ s := by rw [← hx]; exact List.getElem_mem _
  refine s2 ?_
  refine aV (vHoldA (cs := [.int .i64 xi, .int .i64 xl, .int .i64 xh]) ERd rfl rfl (fun h => h) hh hltx (by rw [hx]; rfl)) ?_
  refine aW oA (fun b7 hb7 => ?_)
  refine s10 ?_
  refine JL_dec (fun h17 => ?_) (fun h17 => ?_)
  ·refine s3 ?_
   refine kJ [(1, _), (4, _), (5, _), (7, _), (8, _), (9, _), (10, _)] ?_
   refine s12 ?_
   refine JL_dec (fun h23 => ?_) (fun h23 => ?_)
   ·refine s3 ?_
    refine kJ [(1, _), (4, _), (5, _), (8, _), (9, _), (10, _)] ?_
    refine s11 ?_
    have hs1 := mu_s (m := m) hltx hx
    have hs2 := ca_s (m := m) hltx hx
    dsimp only at hs1 hs2
    rw [if_pos h17] at hs1
    rw [if_pos h23] at hs2
    exact xR (k + 1) (by omega) (by omega) (hl := ⟨rfl, (by rw [hs1]; exact congrArg some (by go_num)), (by rw [hs2]; exact congrArg some (by go_num)), rfl, rfl, (congrArg some (by go_num)), trivial⟩)
   ·refine s6 ?_
    refine kJ [(1, _), (4, _), (5, _), (8, _), (9, _), (10, _)] ?_
    refine s4 ?_
    have hs1 := mu_s (m := m) hltx hx
    have hs2 := ca_s (m := m) hltx hx
    dsimp only at hs1 hs2
    rw [if_pos h17] at hs1
    rw [if_neg h23] at hs2
    exact xR (k + 1) (by omega) (by omega) (hl := ⟨rfl, (by rw [hs1]; exact congrArg some (by go_num)), (by rw [hs2]; rfl), rfl, rfl, (congrArg some (by go_num)), trivial⟩)
  ·refine s6 ?_
   refine kJ [(1, _), (4, _), (5, _), (7, _), (8, _), (9, _), (10, _)] ?_
   refine s5 ?_
   refine JL_dec (fun h23 => ?_) (fun h23 => ?_)
   ·refine s3 ?_
    refine kJ [(1, _), (4, _), (5, _), (8, _), (9, _), (10, _)] ?_
    refine s11 ?_
    have hs1 := mu_s (m := m) hltx hx
    have hs2 := ca_s (m := m) hltx hx
    dsimp only at hs1 hs2
    rw [if_neg h17] at hs1
    rw [if_pos h23] at hs2
    exact xR (k + 1) (by omega) (by omega) (hl := ⟨rfl, (by rw [hs1]; rfl), (by rw [hs2]; exact congrArg some (by go_num)), rfl, rfl, (congrArg some (by go_num)), trivial⟩)
   ·refine s6 ?_
    refine kJ [(1, _), (4, _), (5, _), (8, _), (9, _), (10, _)] ?_
    refine s4 ?_
    have hs1 := mu_s (m := m) hltx hx
    have hs2 := ca_s (m := m) hltx hx
    dsimp only at hs1 hs2
    rw [if_neg h17] at hs1
    rw [if_neg h23] at hs2
    exact xR (k + 1) (by omega) (by omega) (hl := ⟨rfl, (by rw [hs1]; rfl), (by rw [hs2]; rfl), rfl, rfl, (congrArg some (by go_num)), trivial⟩)
 ·refine s10 ?_
  refine kJ [(4, _), (5, _)] ?_
  refine s8 ?_
  refine JR_two rfl (rr_tmp rfl) (rr_tmp rfl) ?_
  intro w' hw
  obtain rfl : k = s.length := by omega
  rw [List.take_length]
  exact ⟨rfl, hw.bel⟩
theorem ix_151_0 (a b : Value) : ∀ w : World, (Instr.index 151 (.agg #[a, b]) (.int .i64 0)).run Tryz.prog w = .ok a w := fun w => by kernel_rfl
theorem ix_151_1 (a b : Value) : ∀ w : World, (Instr.index 151 (.agg #[a, b]) (.int .i64 1)).run Tryz.prog w = .ok b w := fun w => by kernel_rfl
set_option maxRecDepth 100000 in
set_option maxHeartbeats 4000000 in
theorem limits_any (sA wA : Option Addr) (sn on sc wc : Nat) (w : World) : Calls Tryz.prog 58 #[.slice sA sn sc, .slice wA on wc] w (Ret w (fun _ : Nat × Nat => True) (fun t => .func (.func 91) #[] #[.pointer (some ⟨t.2, 0, none⟩), .pointer (some ⟨t.1, 0, none⟩)]) (fun t => [cellB t.1 [.slice sA sn sc] 74, cellB t.2 [.slice wA on wc] 74])) := by
 refine J_enter (fun _ => False) (vs := [.slice sA sn sc, .slice wA on wc]) (k := 4) (l := [(0, .slice sA sn sc), (1, .slice wA on wc)]) Tryz.func58 rfl rfl Tryz.ntmps58 rfl rfl (Wd.start _) ?_
 refine s2 ?_
 refine aW (oX [_]) (fun b2 hb2 => ?_)
 refine aW (oX [_]) (fun b3 hb3 => ?_)
 refine s10 ?_
 refine JR_one rfl (rr_tmp rfl) ?_
 intro w' hw
 exact ⟨(b2, b3), trivial, rfl, hw.pick (by repeat constructor)⟩
set_option maxRecDepth 100000 in
set_option maxHeartbeats 4000000 in
theorem limits1_any (s o : List Rdg) (sA wA : Option Addr) (sc wc bs bo : Nat) (w0 : World) (E1 E2 E3 E4 : It) (M : List (Int × Int) → It) (Q : LmT → Prop) (hrs : Arr 3 eRd w0 (.slice sA s.length sc) s) (hro : Arr 3 eRd w0 (.slice wA o.length wc) o) (hok : rdOk o) : ItrI Tryz.prog (T := LmT) (Y := Int) 91 #[.pointer (some ⟨bo, 0, none⟩), .pointer (some ⟨bs, 0, none⟩)] ⟨w0, fun _ => False, none, []⟩ (fun t => t.n ≤ (limL s o).length ∧ Q t) (fun t X => [cellB bs [.slice sA s.length sc] 74, cellB bo [.slice wA o.length wc] 74, E1, E2, E3, E4, M t.S, X]) (fun t y => (limL s o)[t.n]? = some y) (fun y => .int .i64 y) (fun t _ X => [cellB bs [.slice sA s.length sc] 74, cellB bo [.slice wA o.length wc] 74, E1, E2, E3, E4, M t.S, X]) (fun t t' => t'.n = t.n + 1) (fun t => t.n = (limL s o).length) (fun t => t.n = 0) := by
 intro lp X t0 W h0 hn0 hW hY
 have hnb := nr_bnd hok
 obtain ⟨A', cap', e0, -, ⟨hl, -⟩, hSA⟩ := hrs
 obtain ⟨rfl, -, rfl⟩ : sA = A' ∧ True ∧ sc = cap' := by injection e0 with e1 _ e3; exact ⟨e1, trivial, e3⟩
 refine J_start (B := ⟨w0, fun _ => False, none, []⟩) rfl rfl (vs := [.func (.yield lp) #[] #[], .pointer (some ⟨bo, 0, none⟩), .pointer (some ⟨bs, 0, none⟩)]) (k := 56) (l := [(0, .func (.yield lp) #[] #[]), (1, .pointer (some ⟨bo, 0, none⟩)), (2, .pointer (some ⟨bs, 0, none⟩))]) Tryz.func91 rfl rfl Tryz.ntmps91 rfl rfl (hW) ?_
 refine s2 ?_
 by_cases haw : awB o = true
 ·have hP : lmP o = [129368064] := if_pos haw
  have he0 : ∃ R, limL s o = [] ++ (129368064 : Int) :: R := by
   by_cases hg : nrL o > nrH o
   ·exact ⟨[], by rw [lim_gt hg, hP]; rfl⟩
   ·exact ⟨_, by rw [lim_le hg, hP]; rfl⟩
  obtain ⟨R0, he0⟩ := he0
  refine J_regI ?_
  refine iV vAny ?_
  refine iC (ecF rfl rfl) (fun w hw => (away_any o _ w (hro.up ERd hw.bel)).mono (fun _ _ h => by rw [haw] at h; exact h)) ?_
  refine iV (RP.rv (rp_move rfl rfl)) ?_
  refine iV (RP.rv (rp_move rfl rfl)) ?_
  refine iY (T := LmT) (φ := fun t' => t'.n = t0.n + 1 ∧ (t'.n ≤ (limL s o).length ∧ Q t')) (HH := fun t' => [cellB bs [.slice sA s.length sc] 74, cellB bo [.slice wA o.length wc] 74, E1, E2, E3, E4, M t'.S, X]) (fun W1 hW1 m => YieldAt.mono' (hY t0 (129368064) W1 h0 (lm_at he0 hn0.symm) (hW1.pick (by repeat constructor)) m) (fun e W2 h => ⟨h.1, h.2.imp fun t' h => ⟨⟨h.1, h.2.1⟩, h.2.2⟩⟩)) (fun tc ht2 => ?_)
  obtain ⟨hRn, hph2⟩ := ht2
  refine iV (RP.rv (pNot rfl rfl)) ?_
  refine iV (RP.rv pAny) ?_
  refine iN ?_
  have hDn : (lmP o).length = tc.n := by rw [hP, hRn, hn0]; rfl
  have hpc := hph2
  clear hRn hph2
  refine s5 ?_
  refine kJ [(0, _), (1, _), (2, _)] ?_
  refine s2 ?_
  refine aCB (fun w hw => nearS_any o _ w (hro.up ERd hw.bel)) ?_
  refine s9 ?_
  by_cases hlh : nrL o > nrH o
  ·refine kJ [(0, _), (2, _), (4, _), (5, _)] ?_
   refine s4 ?_
   refine aDecT ?_ hlh
   refine s12 ?_
   refine JR_none rfl ?_
   intro w' hw
   exact ⟨⟨_, rfl⟩, tc, hpc, by rw [lim_gt hlh, hDn], hw.pick (by repeat constructor)⟩
  ·refine kJ [(0, _), (2, _), (4, _), (5, _)] ?_
   have he1 := lim_le (s := s) hlh
   refine J_regI ?_
   refine iV (RP.rv (rp_move rfl rfl)) ?_
   refine iV (RP.rv (rp_move rfl rfl)) ?_
   refine iV (RP.rv gBin) ?_
   refine iKF (p := nrH o < nrL o) hlh ?_
   refine iV (RP.rv (rp_move rfl rfl)) ?_
   refine iV (RP.rv (rp_move rfl rfl)) ?_
   refine iV (RP.rv (rp_move rfl rfl)) ?_
   refine iV (RP.rv pAny) ?_
   refine iY (T := LmT) (φ := fun t' => t'.n = tc.n + 1 ∧ (t'.n ≤ (limL s o).length ∧ Q t')) (HH := fun t' => [cellB bs [.slice sA s.length sc] 74, cellB bo [.slice wA o.length wc] 74, E1, E2, E3, E4, M t'.S, X]) (fun W1 hW1 m => YieldAt.mono' (hY tc (nrL o - 1) W1 hpc (lm_at he1 hDn) (hW1.pick (by repeat constructor)) m) (fun e W2 h => ⟨h.1, h.2.imp fun t' h => ⟨⟨h.1, h.2.1⟩, h.2.2⟩⟩)) (fun t1 ht2 => ?_)
   obtain ⟨hRn, hph2⟩ := ht2
   refine iV (RP.rv (pNot rfl rfl)) ?_
   refine iV (RP.rv pAny) ?_
   refine iN ?_
   have hD1 : (lmP o ++ [nrL o - 1]).length = t1.n := by rw [List.length_append, hDn, hRn]; rfl
   have he2 := lm_nx he1
   clear he1 hDn hpc hRn
   refine s5 ?_
   refine kJ [(0, _), (2, _), (4, _), (5, _)] ?_
   refine s7 ?_
   refine xL (T := Nat × LmT × List Int) (fun q => q.1 ≤ s.length ∧ q.2.2.length = q.2.1.n ∧ limL s o = q.2.2 ++ lmR (s.drop q.1) o ∧ (q.2.1.n ≤ (limL s o).length ∧ Q q.2.1)) (fun q => [(0, .func (.yield lp) #[] #[]), (4, .int .i64 (nrL o)), (5, .int .i64 (nrH o)), (32, .slice sA s.length sc), (33, .int .i64 (s.length : Nat)), (34, .int .i64 (q.1 : Nat))]) (fun q => [cellB bs [.slice sA s.length sc] 74, cellB bo [.slice wA o.length wc] 74, E1, E2, E3, E4, M q.2.1.S, X]) (fun q => s.length - q.1) (0, t1, lmP o ++ [nrL o - 1]) ⟨Nat.zero_le _, hD1, he2, hph2⟩ ?_
   clear he2 hD1 hph2
   rintro ⟨k, t2, D2⟩ ⟨hk, hD2, he2, hp2⟩
   dsimp only at hk hD2 he2 hp2 ⊢
   refine s3 ?_
   refine JL_dec (fun h35 => ?_) (fun h35 => ?_)
   ·refine s9 ?_
    have hltx : k < s.length := by omega
    obtain ⟨bx, qx, rfl, hh⟩ := hSA (by intro e; subst e; simp at hltx)
    obtain ⟨⟨xi, xl, xh⟩, hx⟩ : ∃ y, s[k]'hltx = y := ⟨_, rfl⟩
    have hmx : (⟨xi, xl, xh⟩ : Rdg) ∈ s := by rw [← hx]; exact List.getElem_mem _
    refine s2 ?_
    refine aV (vHoldA (cs := [.int .i64 xi, .int .i64 xl, .int .i64 xh]) ERd rfl rfl (fun h => h) hh hltx (by rw [hx]; rfl)) ?_
    refine aW oA (fun b7 hb7 => ?_)
    refine s9 ?_
    refine aP (rp_buildC (fun us => [us.getD 0 undef, us.getD 1 undef]) rfl rfl (fun w => by kernel_rfl)) ?_
    refine s4 ?_
    refine xL (T := Nat × LmT × List Int) (fun q => q.1 ≤ 2 ∧ q.2.2.length = q.2.1.n ∧ limL s o = q.2.2 ++ ((([xl, xh] : List Int).drop q.1).filter (lmW o) ++ lmR (s.drop (k + 1)) o) ∧ (q.2.1.n ≤ (limL s o).length ∧ Q q.2.1)) (fun q => [(0, .func (.yield lp) #[] #[]), (4, .int .i64 (nrL o)), (5, .int .i64 (nrH o)), (32, .slice (some ⟨bx, qx, none⟩) s.length sc), (33, .int .i64 (s.length : Nat)), (34, .int .i64 (k : Nat)), (42, .agg #[.int .i64 xl, .int .i64 xh]), (43, .int .i64 (q.1 : Nat))]) (fun q => [cellB bs [.slice (some ⟨bx, qx, none⟩) s.length sc] 74, cellB bo [.slice wA o.length wc] 74, E1, E2, E3, E4, M q.2.1.S, X]) (fun q => 2 - q.1) (0, t2, D2) ⟨Nat.zero_le _, hD2, by rw [he2, lmR_s hltx hx]; rfl, hp2⟩ ?_
    clear he2 hD2 hp2 t2 D2
    rintro ⟨i, t2, D2⟩ ⟨hi, hD2, he2, hp2⟩
    dsimp only at hi hD2 he2 hp2 ⊢
    refine s3 ?_
    refine JL_dec (fun h44 => ?_) (fun h44 => ?_)
    ·refine s9 ?_
     rcases (show i = 0 ∨ i = 1 by omega) with rfl | rfl
     ·refine s1 ?_
      refine aP (rp_run2 (f := fun u v => Instr.index 151 u v) (fun _ => rfl) rfl rfl (ix_151_0 _ _)) ?_
      refine s4 ?_
      by_cases hin : nrL o ≤ xl ∧ xl ≤ nrH o - 1
      ·have he3 : limL s o = D2 ++ xl :: ([xh].filter (lmW o) ++ lmR (s.drop (k + 1)) o) := by rw [he2]; congr 1; show (xl :: [xh] : List Int).filter (lmW o) ++ _ = _; rw [lmW_in _ hin] <;> rfl
       refine J_regI ?_
       refine iV (RP.rv (rp_move rfl rfl)) ?_
       refine iV (RP.rv (rp_move rfl rfl)) ?_
       refine iV (RP.rv (rp_move rfl rfl)) ?_
       refine iV (RP.rv pAny) ?_
       refine iC (ecF rfl rfl) (fun w hw => mwithinF xl (nrL o) (nrH o - 1) w) ?_
       refine iKT hin ?_
       refine iV (RP.rv (rp_move rfl rfl)) ?_
       refine iV (RP.rv (rp_move rfl rfl)) ?_
       refine iV (RP.rv (rp_move rfl rfl)) ?_
       refine iY (T := LmT) (φ := fun t' => t'.n = t2.n + 1 ∧ (t'.n ≤ (limL s o).length ∧ Q t')) (HH := fun t' => [cellB bs [.slice (some ⟨bx, qx, none⟩) s.length sc] 74, cellB bo [.slice wA o.length wc] 74, E1, E2, E3, E4, M t'.S, X]) (fun W1 hW1 m => YieldAt.mono' (hY t2 (xl) W1 hp2 (lm_at he3 hD2) (hW1.pick (by repeat constructor)) m) (fun e W2 h => ⟨h.1, h.2.imp fun t' h => ⟨⟨h.1, h.2.1⟩, h.2.2⟩⟩)) (fun t3 ht2 => ?_)
       obtain ⟨hRn, hph2⟩ := ht2
       refine iV (RP.rv (pNot rfl rfl)) ?_
       refine iV (RP.rv pAny) ?_
       refine iN ?_
       have hD3 : (D2 ++ [xl]).length = t3.n := by rw [List.length_append, hD2, hRn]; rfl
       have he4 := lm_nx he3
       refine s5 ?_
       refine kJ [(0, _), (4, _), (5, _), (32, _), (33, _), (34, _), (42, _), (43, _)] ?_
       refine s4 ?_
       exact xR (1, t3, D2 ++ [xl]) ⟨by dsimp only; omega, hD3, he4, hph2⟩ (by dsimp only; omega) (hl := ⟨rfl, rfl, rfl, rfl, rfl, rfl, rfl, rfl, trivial⟩)
      ·refine s5 ?_
       refine aCB (fun w hw => mwithinF _ _ _ w) ?_
       refine aDecF ?_ hin
       refine s12 ?_
       refine kJ [(0, _), (4, _), (5, _), (32, _), (33, _), (34, _), (42, _), (43, _)] ?_
       refine s4 ?_
       have he4 : limL s o = D2 ++ ([xh].filter (lmW o) ++ lmR (s.drop (k + 1)) o) := by rw [he2]; congr 1; show (xl :: [xh] : List Int).filter (lmW o) ++ _ = _; rw [lmW_out _ hin] <;> rfl
       exact xR (1, t2, D2) ⟨by dsimp only; omega, hD2, he4, hp2⟩ (by dsimp only; omega) (hl := ⟨rfl, rfl, rfl, rfl, rfl, rfl, rfl, rfl, trivial⟩)
     ·refine s1 ?_
      refine aP (rp_run2 (f := fun u v => Instr.index 151 u v) (fun _ => rfl) rfl rfl (ix_151_1 _ _)) ?_
      refine s4 ?_
      by_cases hin : nrL o ≤ xh ∧ xh ≤ nrH o - 1
      ·have he3 : limL s o = D2 ++ xh :: ([].filter (lmW o) ++ lmR (s.drop (k + 1)) o) := by rw [he2]; congr 1; show (xh :: [] : List Int).filter (lmW o) ++ _ = _; rw [lmW_in _ hin] <;> rfl
       refine J_regI ?_
       refine iV (RP.rv (rp_move rfl rfl)) ?_
       refine iV (RP.rv (rp_move rfl rfl)) ?_
       refine iV (RP.rv (rp_move rfl rfl)) ?_
       refine iV (RP.rv pAny) ?_
       refine iC (ecF rfl rfl) (fun w hw => mwithinF xh (nrL o) (nrH o - 1) w) ?_
       refine iKT hin ?_
       refine iV (RP.rv (rp_move rfl rfl)) ?_
       refine iV (RP.rv (rp_move rfl rfl)) ?_
       refine iV (RP.rv (rp_move rfl rfl)) ?_
       refine iY (T := LmT) (φ := fun t' => t'.n = t2.n + 1 ∧ (t'.n ≤ (limL s o).length ∧ Q t')) (HH := fun t' => [cellB bs [.slice (some ⟨bx, qx, none⟩) s.length sc] 74, cellB bo [.slice wA o.length wc] 74, E1, E2, E3, E4, M t'.S, X]) (fun W1 hW1 m => YieldAt.mono' (hY t2 (xh) W1 hp2 (lm_at he3 hD2) (hW1.pick (by repeat constructor)) m) (fun e W2 h => ⟨h.1, h.2.imp fun t' h => ⟨⟨h.1, h.2.1⟩, h.2.2⟩⟩)) (fun t3 ht2 => ?_)
       obtain ⟨hRn, hph2⟩ := ht2
       refine iV (RP.rv (pNot rfl rfl)) ?_
       refine iV (RP.rv pAny) ?_
       refine iN ?_
       have hD3 : (D2 ++ [xh]).length = t3.n := by rw [List.length_append, hD2, hRn]; rfl
       have he4 := lm_nx he3
       refine s5 ?_
       refine kJ [(0, _), (4, _), (5, _), (32, _), (33, _), (34, _), (42, _), (43, _)] ?_
       refine s4 ?_
       exact xR (2, t3, D2 ++ [xh]) ⟨by dsimp only; omega, hD3, he4, hph2⟩ (by dsimp only; omega) (hl := ⟨rfl, rfl, rfl, rfl, rfl, rfl, rfl, rfl, trivial⟩)
      ·refine s5 ?_
       refine aCB (fun w hw => mwithinF _ _ _ w) ?_
       refine aDecF ?_ hin
       refine s12 ?_
       refine kJ [(0, _), (4, _), (5, _), (32, _), (33, _), (34, _), (42, _), (43, _)] ?_
       refine s4 ?_
       have he4 : limL s o = D2 ++ ([].filter (lmW o) ++ lmR (s.drop (k + 1)) o) := by rw [he2]; congr 1; show (xh :: [] : List Int).filter (lmW o) ++ _ = _; rw [lmW_out _ hin] <;> rfl
       exact xR (2, t2, D2) ⟨by dsimp only; omega, hD2, he4, hp2⟩ (by dsimp only; omega) (hl := ⟨rfl, rfl, rfl, rfl, rfl, rfl, rfl, rfl, trivial⟩)
    ·refine s14 ?_
     obtain rfl : i = 2 := by omega
     exact xR (k + 1, t2, D2) ⟨by dsimp only; omega, hD2, he2, hp2⟩ (by dsimp only; omega) (hl := ⟨rfl, rfl, rfl, rfl, rfl, (congrArg some (by go_num)), trivial⟩)
   ·refine s8 ?_
    refine JR_end rfl ?_
    intro w' hw
    obtain rfl : k = s.length := by omega
    rw [List.drop_length] at he2
    have he5 : limL s o = D2 := by rw [he2]; show D2 ++ [] = D2; rw [List.append_nil]
    exact ⟨⟨_, rfl⟩, t2, hp2, by rw [he5, hD2], hw.pick (by repeat constructor)⟩
 ·have hawF : awB o = false := by simpa using haw
  have hP : lmP o = [] := if_neg haw
  obtain ⟨tc, htc⟩ : ∃ t, t = t0 := ⟨_, rfl⟩
  rw [← htc] at hW h0 hn0
  have hDn : (lmP o).length = tc.n := by rw [hP, hn0]; rfl
  have hpc := h0
  rw [← htc]
  refine s2 ?_
  refine aCB (fun w hw => (away_any o _ w (hro.up ERd hw.bel)).mono (fun _ _ h => by rw [hawF] at h; exact h)) ?_
  refine s11 ?_
  refine kJ [(0, _), (1, _), (2, _)] ?_
  refine s2 ?_
  refine aCB (fun w hw => nearS_any o _ w (hro.up ERd hw.bel)) ?_
  refine s9 ?_
  by_cases hlh : nrL o > nrH o
  ·refine kJ [(0, _), (2, _), (4, _), (5, _)] ?_
   refine s4 ?_
   refine aDecT ?_ hlh
   refine s12 ?_
   refine JR_none rfl ?_
   intro w' hw
   exact ⟨⟨_, rfl⟩, tc, hpc, by rw [lim_gt hlh, hDn], hw.pick (by repeat constructor)⟩
  ·refine kJ [(0, _), (2, _), (4, _), (5, _)] ?_
   have he1 := lim_le (s := s) hlh
   refine J_regI ?_
   refine iV (RP.rv (rp_move rfl rfl)) ?_
   refine iV (RP.rv (rp_move rfl rfl)) ?_
   refine iV (RP.rv gBin) ?_
   refine iKF (p := nrH o < nrL o) hlh ?_
   refine iV (RP.rv (rp_move rfl rfl)) ?_
   refine iV (RP.rv (rp_move rfl rfl)) ?_
   refine iV (RP.rv (rp_move rfl rfl)) ?_
   refine iV (RP.rv pAny) ?_
   refine iY (T := LmT) (φ := fun t' => t'.n = tc.n + 1 ∧ (t'.n ≤ (limL s o).length ∧ Q t')) (HH := fun t' => [cellB bs [.slice sA s.length sc] 74, cellB bo [.slice wA o.length wc] 74, E1, E2, E3, E4, M t'.S, X]) (fun W1 hW1 m => YieldAt.mono' (hY tc (nrL o - 1) W1 hpc (lm_at he1 hDn) (hW1.pick (by repeat constructor)) m) (fun e W2 h => ⟨h.1, h.2.imp fun t' h => ⟨⟨h.1, h.2.1⟩, h.2.2⟩⟩)) (fun t1 ht2 => ?_)
   obtain ⟨hRn, hph2⟩ := ht2
   refine iV (RP.rv (pNot rfl rfl)) ?_
   refine iV (RP.rv pAny) ?_
   refine iN ?_
   have hD1 : (lmP o ++ [nrL o - 1]).length = t1.n := by rw [List.length_append, hDn, hRn]; rfl
   have he2 := lm_nx he1
   clear he1 hDn hpc hRn
   refine s5 ?_
   refine kJ [(0, _), (2, _), (4, _), (5, _)] ?_
   refine s7 ?_
   refine xL (T := Nat × LmT × List Int) (fun q => q.1 ≤ s.length ∧ q.2.2.length = q.2.1.n ∧ limL s o = q.2.2 ++ lmR (s.drop q.1) o ∧ (q.2.1.n ≤ (limL s o).length ∧ Q q.2.1)) (fun q => [(0, .func (.yield lp) #[] #[]), (4, .int .i64 (nrL o)), (5, .int .i64 (nrH o)), (32, .slice sA s.length sc), (33, .int .i64 (s.length : Nat)), (34, .int .i64 (q.1 : Nat))]) (fun q => [cellB bs [.slice sA s.length sc] 74, cellB bo [.slice wA o.length wc] 74, E1, E2, E3, E4, M q.2.1.S, X]) (fun q => s.length - q.1) (0, t1, lmP o ++ [nrL o - 1]) ⟨Nat.zero_le _, hD1, he2, hph2⟩ ?_
   clear he2 hD1 hph2
   rintro ⟨k, t2, D2⟩ ⟨hk, hD2, he2, hp2⟩
   dsimp only at hk hD2 he2 hp2 ⊢
   refine s3 ?_
   refine JL_dec (fun h35 => ?_) (fun h35 => ?_)
   ·refine s9 ?_
    have hltx : k < s.length := by omega
    obtain ⟨bx, qx, rfl, hh⟩ := hSA (by intro e; subst e; simp at hltx)
    obtain ⟨⟨xi, xl, xh⟩, hx⟩ : ∃ y, s[k]'hltx = y := ⟨_, rfl⟩
    have hmx : (⟨xi, xl, xh⟩ : Rdg) ∈ s := by rw [← hx]; exact List.getElem_mem _
    refine s2 ?_
    refine aV (vHoldA (cs := [.int .i64 xi, .int .i64 xl, .int .i64 xh]) ERd rfl rfl (fun h => h) hh hltx (by rw [hx]; rfl)) ?_
    refine aW oA (fun b7 hb7 => ?_)
    refine s9 ?_
    refine aP (rp_buildC (fun us => [us.getD 0 undef, us.getD 1 undef]) rfl rfl (fun w => by kernel_rfl)) ?_
    refine s4 ?_
    refine xL (T := Nat × LmT × List Int) (fun q => q.1 ≤ 2 ∧ q.2.2.length = q.2.1.n ∧ limL s o = q.2.2 ++ ((([xl, xh] : List Int).drop q.1).filter (lmW o) ++ lmR (s.drop (k + 1)) o) ∧ (q.2.1.n ≤ (limL s o).length ∧ Q q.2.1)) (fun q => [(0, .func (.yield lp) #[] #[]), (4, .int .i64 (nrL o)), (5, .int .i64 (nrH o)), (32, .slice (some ⟨bx, qx, none⟩) s.length sc), (33, .int .i64 (s.length : Nat)), (34, .int .i64 (k : Nat)), (42, .agg #[.int .i64 xl, .int .i64 xh]), (43, .int .i64 (q.1 : Nat))]) (fun q => [cellB bs [.slice (some ⟨bx, qx, none⟩) s.length sc] 74, cellB bo [.slice wA o.length wc] 74, E1, E2, E3, E4, M q.2.1.S, X]) (fun q => 2 - q.1) (0, t2, D2) ⟨Nat.zero_le _, hD2, by rw [he2, lmR_s hltx hx]; rfl, hp2⟩ ?_
    clear he2 hD2 hp2 t2 D2
    rintro ⟨i, t2, D2⟩ ⟨hi, hD2, he2, hp2⟩
    dsimp only at hi hD2 he2 hp2 ⊢
    refine s3 ?_
    refine JL_dec (fun h44 => ?_) (fun h44 => ?_)
    ·refine s9 ?_
     rcases (show i = 0 ∨ i = 1 by omega) with rfl | rfl
     ·refine s1 ?_
      refine aP (rp_run2 (f := fun u v => Instr.index 151 u v) (fun _ => rfl) rfl rfl (ix_151_0 _ _)) ?_
      refine s4 ?_
      by_cases hin : nrL o ≤ xl ∧ xl ≤ nrH o - 1
      ·have he3 : limL s o = D2 ++ xl :: ([xh].filter (lmW o) ++ lmR (s.drop (k + 1)) o) := by rw [he2]; congr 1; show (xl :: [xh] : List Int).filter (lmW o) ++ _ = _; rw [lmW_in _ hin] <;> rfl
       refine J_regI ?_
       refine iV (RP.rv (rp_move rfl rfl)) ?_
       refine iV (RP.rv (rp_move rfl rfl)) ?_
       refine iV (RP.rv (rp_move rfl rfl)) ?_
       refine iV (RP.rv pAny) ?_
       refine iC (ecF rfl rfl) (fun w hw => mwithinF xl (nrL o) (nrH o - 1) w) ?_
       refine iKT hin ?_
       refine iV (RP.rv (rp_move rfl rfl)) ?_
       refine iV (RP.rv (rp_move rfl rfl)) ?_
       refine iV (RP.rv (rp_move rfl rfl)) ?_
       refine iY (T := LmT) (φ := fun t' => t'.n = t2.n + 1 ∧ (t'.n ≤ (limL s o).length ∧ Q t')) (HH := fun t' => [cellB bs [.slice (some ⟨bx, qx, none⟩) s.length sc] 74, cellB bo [.slice wA o.length wc] 74, E1, E2, E3, E4, M t'.S, X]) (fun W1 hW1 m => YieldAt.mono' (hY t2 (xl) W1 hp2 (lm_at he3 hD2) (hW1.pick (by repeat constructor)) m) (fun e W2 h => ⟨h.1, h.2.imp fun t' h => ⟨⟨h.1, h.2.1⟩, h.2.2⟩⟩)) (fun t3 ht2 => ?_)
       obtain ⟨hRn, hph2⟩ := ht2
       refine iV (RP.rv (pNot rfl rfl)) ?_
       refine iV (RP.rv pAny) ?_
       refine iN ?_
       have hD3 : (D2 ++ [xl]).length = t3.n := by rw [List.length_append, hD2, hRn]; rfl
       have he4 := lm_nx he3
       refine s5 ?_
       refine kJ [(0, _), (4, _), (5, _), (32, _), (33, _), (34, _), (42, _), (43, _)] ?_
       refine s4 ?_
       exact xR (1, t3, D2 ++ [xl]) ⟨by dsimp only; omega, hD3, he4, hph2⟩ (by dsimp only; omega) (hl := ⟨rfl, rfl, rfl, rfl, rfl, rfl, rfl, rfl, trivial⟩)
      ·refine s5 ?_
       refine aCB (fun w hw => mwithinF _ _ _ w) ?_
       refine aDecF ?_ hin
       refine s12 ?_
       refine kJ [(0, _), (4, _), (5, _), (32, _), (33, _), (34, _), (42, _), (43, _)] ?_
       refine s4 ?_
       have he4 : limL s o = D2 ++ ([xh].filter (lmW o) ++ lmR (s.drop (k + 1)) o) := by rw [he2]; congr 1; show (xl :: [xh] : List Int).filter (lmW o) ++ _ = _; rw [lmW_out _ hin] <;> rfl
       exact xR (1, t2, D2) ⟨by dsimp only; omega, hD2, he4, hp2⟩ (by dsimp only; omega) (hl := ⟨rfl, rfl, rfl, rfl, rfl, rfl, rfl, rfl, trivial⟩)
     ·refine s1 ?_
      refine aP (rp_run2 (f := fun u v => Instr.index 151 u v) (fun _ => rfl) rfl rfl (ix_151_1 _ _)) ?_
      refine s4 ?_
      by_cases hin : nrL o ≤ xh ∧ xh ≤ nrH o - 1
      ·have he3 : limL s o = D2 ++ xh :: ([].filter (lmW o) ++ lmR (s.drop (k + 1)) o) := by rw [he2]; congr 1; show (xh :: [] : List Int).filter (lmW o) ++ _ = _; rw [lmW_in _ hin] <;> rfl
       refine J_regI ?_
       refine iV (RP.rv (rp_move rfl rfl)) ?_
       refine iV (RP.rv (rp_move rfl rfl)) ?_
       refine iV (RP.rv (rp_move rfl rfl)) ?_
       refine iV (RP.rv pAny) ?_
       refine iC (ecF rfl rfl) (fun w hw => mwithinF xh (nrL o) (nrH o - 1) w) ?_
       refine iKT hin ?_
       refine iV (RP.rv (rp_move rfl rfl)) ?_
       refine iV (RP.rv (rp_move rfl rfl)) ?_
       refine iV (RP.rv (rp_move rfl rfl)) ?_
       refine iY (T := LmT) (φ := fun t' => t'.n = t2.n + 1 ∧ (t'.n ≤ (limL s o).length ∧ Q t')) (HH := fun t' => [cellB bs [.slice (some ⟨bx, qx, none⟩) s.length sc] 74, cellB bo [.slice wA o.length wc] 74, E1, E2, E3, E4, M t'.S, X]) (fun W1 hW1 m => YieldAt.mono' (hY t2 (xh) W1 hp2 (lm_at he3 hD2) (hW1.pick (by repeat constructor)) m) (fun e W2 h => ⟨h.1, h.2.imp fun t' h => ⟨⟨h.1, h.2.1⟩, h.2.2⟩⟩)) (fun t3 ht2 => ?_)
       obtain ⟨hRn, hph2⟩ := ht2
       refine iV (RP.rv (pNot rfl rfl)) ?_
       refine iV (RP.rv pAny) ?_
       refine iN ?_
       have hD3 : (D2 ++ [xh]).length = t3.n := by rw [List.length_append, hD2, hRn]; rfl
       have he4 := lm_nx he3
       refine s5 ?_
       refine kJ [(0, _), (4, _), (5, _), (32, _), (33, _), (34, _), (42, _), (43, _)] ?_
       refine s4 ?_
       exact xR (2, t3, D2 ++ [xh]) ⟨by dsimp only; omega, hD3, he4, hph2⟩ (by dsimp only; omega) (hl := ⟨rfl, rfl, rfl, rfl, rfl, rfl, rfl, rfl, trivial⟩)
      ·refine s5 ?_
       refine aCB (fun w hw => mwithinF _ _ _ w) ?_
       refine aDecF ?_ hin
       refine s12 ?_
       refine kJ [(0, _), (4, _), (5, _), (32, _), (33, _), (34, _), (42, _), (43, _)] ?_
       refine s4 ?_
       have he4 : limL s o = D2 ++ ([].filter (lmW o) ++ lmR (s.drop (k + 1)) o) := by rw [he2]; congr 1; show (xh :: [] : List Int).filter (lmW o) ++ _ = _; rw [lmW_out _ hin] <;> rfl
       exact xR (2, t2, D2) ⟨by dsimp only; omega, hD2, he4, hp2⟩ (by dsimp only; omega) (hl := ⟨rfl, rfl, rfl, rfl, rfl, rfl, rfl, rfl, trivial⟩)
    ·refine s14 ?_
     obtain rfl : i = 2 := by omega
     exact xR (k + 1, t2, D2) ⟨by dsimp only; omega, hD2, he2, hp2⟩ (by dsimp only; omega) (hl := ⟨rfl, rfl, rfl, rfl, rfl, (congrArg some (by go_num)), trivial⟩)
   ·refine s8 ?_
    refine JR_end rfl ?_
    intro w' hw
    obtain rfl : k = s.length := by omega
    rw [List.drop_length] at he2
    have he5 : limL s o = D2 := by rw [he2]; show D2 ++ [] = D2; rw [List.append_nil]
    exact ⟨⟨_, rfl⟩, t2, hp2, by rw [he5, hD2], hw.pick (by repeat constructor)⟩
end Go.Proofs.YtmcpnoailbmkkaaGreat
/- Layer 6: all scores of two sides. -/
namespace Go.Proofs.YtmcpnoailbmkkaaGreat
open Go Go.RowKit Go.Proofs
attribute [local irreducible] J JQ JL JA JD

/-- The scores for a limit, the last one first, ahead of others. -/
def nsL (tm : Int) (m j : Nat) : List (Int × Int) := ((List.range j).map fun i => (tm, ((m + i : Nat) : Int))).reverse
theorem nsL_s (tm : Int) (m j : Nat) : nsL tm m (j + 1) = (tm, ((m + j : Nat) : Int)) :: nsL tm m j := by
 unfold nsL
 rw [List.range_succ, List.map_append, List.reverse_append]; rfl
theorem nsL_len (tm : Int) (m j : Nat) : (nsL tm m j).length = j := by simp [nsL]
theorem nsL_mem {tm x n : Int} {m j : Nat} : (x, n) ∈ nsL tm m j ↔ x = tm ∧ ((m : Nat) : Int) ≤ n ∧ n < ((m + j : Nat) : Int) := by
 unfold nsL
 rw [List.mem_reverse, List.mem_map]
 constructor
 ·rintro ⟨i, hi, e⟩
  rw [List.mem_range] at hi
  injection e with e1 e2
  exact ⟨e1.symm, by omega, by omega⟩
 ·rintro ⟨rfl, h1, h2⟩
  exact ⟨(n - (m : Nat)).toNat, by rw [List.mem_range]; omega, by congr 1; omega⟩
def addL (tm : Int) (s : List Rdg) (S : List (Int × Int)) (k : Int) : List (Int × Int) := nsL tm (max 1 (muN s k)) (caN s k + 1 - max 1 (muN s k)) ++ S
def accS (tm : Int) (s : List Rdg) (L : List Int) (S : List (Int × Int)) : List (Int × Int) := L.foldl (addL tm s) S
theorem accS_s {tm : Int} {s : List Rdg} {L : List Int} {S : List (Int × Int)} {n : Nat} {y : Int} (h : L[n]? = some y) : accS tm s (L.take (n + 1)) S = addL tm s (accS tm s (L.take n) S) y := by
 obtain ⟨h1, h2⟩ := List.getElem?_eq_some_iff.1 h
 unfold accS
 rw [List.take_succ_eq_append_getElem h1, List.foldl_append, h2]; rfl
theorem addL_len (tm : Int) (s : List Rdg) (S : List (Int × Int)) (k : Int) : (addL tm s S k).length ≤ S.length + s.length := by
 unfold addL
 rw [List.length_append, nsL_len]
 have := ca_len s k
 omega
theorem accS_len (tm : Int) (s : List Rdg) : ∀ (L : List Int) (S : List (Int × Int)), (accS tm s L S).length ≤ S.length + L.length * s.length
 | [], S => by show S.length ≤ _; omega
 | y :: L, S => by
  have ih := accS_len tm s L (addL tm s S y)
  have h1 := addL_len tm s S y
  have e : accS tm s (y :: L) S = accS tm s L (addL tm s S y) := rfl
  rw [e, List.length_cons, Nat.add_mul]
  omega
theorem limL_len (s o : List Rdg) : (limL s o).length ≤ 2 + 2 * s.length := by
 have hf : ∀ l : List Rdg, (l.flatMap fun r => [r.lo, r.hi]).length = 2 * l.length := fun l => by
  induction l with
  | nil => rfl
  | cons a l ih => rw [List.flatMap_cons, List.length_append, ih, List.length_cons]; simp; omega
 unfold limL
 rw [List.length_append]
 have h1 : (if awB o = true then [(129368064 : Int)] else []).length ≤ 1 := by split <;> simp
 have h2 : (if nrL o > nrH o then [] else (nrL o - 1) :: (s.flatMap fun r => [r.lo, r.hi]).filter fun d => decide (nrL o ≤ d ∧ d ≤ nrH o - 1)).length ≤ 1 + 2 * s.length := by
  split
  ·simp
  ·rw [List.length_cons]
   have := List.length_filter_le (fun d => decide (nrL o ≤ d ∧ d ≤ nrH o - 1)) (s.flatMap fun r => [r.lo, r.hi])
   rw [hf] at this
   omega
 omega
theorem addL_mem {tm x n : Int} {s : List Rdg} {S : List (Int × Int)} {k : Int} : (x, n) ∈ addL tm s S k ↔ (x = tm ∧ max 1 (muN s k : Int) ≤ n ∧ n ≤ (caN s k : Int)) ∨ (x, n) ∈ S := by
 unfold addL
 rw [List.mem_append, nsL_mem]
 constructor
 ·rintro (⟨h1, h2, h3⟩ | h)
  ·exact .inl ⟨h1, by omega, by omega⟩
  ·exact .inr h
 ·rintro (⟨h1, h2, h3⟩ | h)
  ·exact .inl ⟨h1, by omega, by omega⟩
  ·exact .inr h
theorem accS_mem {tm x n : Int} {s : List Rdg} : ∀ {L : List Int} {S : List (Int × Int)}, (x, n) ∈ accS tm s L S ↔ (x = tm ∧ ∃ k ∈ L, max 1 (muN s k : Int) ≤ n ∧ n ≤ (caN s k : Int)) ∨ (x, n) ∈ S
 | [], S => by
  show (x, n) ∈ S ↔ _
  simp
 | y :: L, S => by
  show (x, n) ∈ accS tm s L (addL tm s S y) ↔ _
  rw [accS_mem, addL_mem]
  constructor
  ·rintro (⟨h1, k, hk, h2⟩ | ⟨h1, h2⟩ | h)
   ·exact .inl ⟨h1, k, List.mem_cons_of_mem _ hk, h2⟩
   ·exact .inl ⟨h1, y, List.mem_cons_self, h2⟩
   ·exact .inr h
  ·rintro (⟨h1, k, hk, h2⟩ | h)
   ·rcases List.mem_cons.1 hk with rfl | hk
    ·exact .inr (.inl ⟨h1, h2⟩)
    ·exact .inl ⟨h1, k, hk, h2⟩
   ·exact .inr (.inr h)
/-- All scores of two sides, behind so many sides. -/
def scK (a b : List Rdg) : Nat → List (Int × Int)
 | 0 => if blB a b = true then [(-1, 0)] else []
 | 1 => accS 0 a (limL a b) (if blB a b = true then [(-1, 0)] else [])
 | _ => accS 1 b (limL b a) (accS 0 a (limL a b) (if blB a b = true then [(-1, 0)] else []))
theorem scK_mem {a b : List Rdg} {x n : Int} : (x, n) ∈ scK a b 2 ↔ scP a b x n := by
 show (x, n) ∈ accS 1 b (limL b a) (accS 0 a (limL a b) (if blB a b = true then [(-1, 0)] else [])) ↔ _
 rw [accS_mem, accS_mem]
 unfold scP scT
 by_cases h : blB a b = true
 ·rw [if_pos h]
  simp only [List.mem_cons, List.not_mem_nil, or_false, Prod.mk.injEq, h]
  constructor
  ·rintro (h1 | h1 | h1)
   ·exact .inr (.inr h1)
   ·exact .inr (.inl h1)
   ·exact .inl ⟨h1.1, h1.2, trivial⟩
  ·rintro (h1 | h1 | h1)
   ·exact .inr (.inr ⟨h1.1, h1.2.1⟩)
   ·exact .inr (.inl h1)
   ·exact .inl h1
 ·rw [if_neg h]
  constructor
  ·rintro (h1 | h1 | h1)
   ·exact .inr (.inr h1)
   ·exact .inr (.inl h1)
   ·cases h1
  ·rintro (h1 | h1 | h1)
   ·exact absurd h1.2.2 h
   ·exact .inr (.inl h1)
   ·exact .inl h1
theorem scK_len {a b : List Rdg} (ha : a.length ≤ 16) (hb : b.length ≤ 16) : ∀ k, (scK a b k).length ≤ 1100
 | 0 => by show (if blB a b = true then [((-1 : Int), (0 : Int))] else []).length ≤ _; split <;> simp
 | 1 => by
  have h1 := accS_len 0 a (limL a b) (if blB a b = true then [(-1, 0)] else [])
  have h2 := limL_len a b
  have h3 : (if blB a b = true then [((-1 : Int), (0 : Int))] else []).length ≤ 1 := by split <;> simp
  have h4 : (limL a b).length * a.length ≤ 34 * 16 := Nat.mul_le_mul (by omega) ha
  show (accS 0 a (limL a b) _).length ≤ _
  omega
 | k + 2 => by
  have h1 := accS_len 0 a (limL a b) (if blB a b = true then [(-1, 0)] else [])
  have h2 := limL_len a b
  have h3 : (if blB a b = true then [((-1 : Int), (0 : Int))] else []).length ≤ 1 := by split <;> simp
  have h4 : (limL a b).length * a.length ≤ 34 * 16 := Nat.mul_le_mul (by omega) ha
  have h5 := accS_len 1 b (limL b a) (accS 0 a (limL a b) (if blB a b = true then [(-1, 0)] else []))
  have h6 := limL_len b a
  have h7 : (limL b a).length * b.length ≤ 34 * 16 := Nat.mul_le_mul (by omega) hb
  show (accS 1 b (limL b a) _).length ≤ _
  omega
theorem rowC38 : (38 : TypeId) < Tryz.prog.types.size := of_decide_eq_true (by kernel_rfl)
theorem cellsC38 : Tryz.prog.cellsOf 38 = 2 := by kernel_rfl
theorem KSC : KeyL Tryz.prog 38 kN okN2 where
 law := Go.Maps.Keyed.of_law (deep_law_laid laidOut (m := 2) (by omega) rowC38 (by kernel_rfl) (by kernel_rfl))
 key := fun p hp => by
  obtain ⟨x, y⟩ := p
  have h1 := wf64 hp.1
  have h2 := wf64 hp.2
  have hk : Tryz.prog.keyType 38 = true := by kernel_rfl
  have hf : (kN (x, y)).formed Tryz.prog 38 = true := by simp [kN, Value.formed, Tryz.underlying38, cellsC38]
  have hc3 : Tryz.prog.cellsOf 3 = 1 := by kernel_rfl
  obtain ⟨n, hn⟩ : ∃ n, Tryz.prog.types.size = n + 1 := ⟨206, by kernel_rfl⟩
  unfold keyOf
  rw [Tryz.underlying38]
  simp only [hk, hf, hn, Bool.and_self, if_true]
  refine ⟨.string (keyBytes [.int .i64 x, .int .i64 y]), ?_⟩
  rw [Option.map_eq_some_iff]
  refine ⟨[.int .i64 x, .int .i64 y], ?_, rfl⟩
  dsimp only at h1 h2
  simp [kN, Program.keyLits, Tryz.underlying38, Tryz.underlying3, cellsC38, hc3, h1, h2, Value.cells]
 inj := fun x y h => by
  obtain ⟨x1, x2⟩ := x
  obtain ⟨y1, y2⟩ := y
  simpa [kN] using h
theorem ix_75_0 (a b : Value) : ∀ w : World, (Instr.index 75 (.agg #[a, b]) (.int .i64 0)).run Tryz.prog w = .ok a w := fun w => by kernel_rfl
theorem ix_75_1 (a b : Value) : ∀ w : World, (Instr.index 75 (.agg #[a, b]) (.int .i64 1)).run Tryz.prog w = .ok b w := fun w => by kernel_rfl
set_option maxRecDepth 100000 in
set_option maxHeartbeats 4000000 in
theorem scores_any (a b : List Rdg) (aA bA : Option Addr) (ac bc : Nat) (w : World) (hA : Arr 3 eRd w (.slice aA a.length ac) a) (hB : Arr 3 eRd w (.slice bA b.length bc) b) (hka : rdOk a) (hkb : rdOk b) (hla : a.length ≤ 16) (hlb : b.length ≤ 16) : Calls Tryz.prog 28 #[.agg #[.slice aA a.length ac, .slice bA b.length bc]] w (Ret w (fun _ : Nat => True) (fun m => .map (some m)) (fun m => [setB Tryz.prog 38 kN okN2 m (scK a b 2)])) := by
 have hnba := nr_bnd hka
 have hnbb := nr_bnd hkb
 have hsl := scK_len hla hlb (a := a) (b := b)
 refine J_startM (B := bs w) rfl rfl (vs := [.agg #[.slice aA a.length ac, .slice bA b.length bc]]) (k := 78) (l := [(0, .agg #[.slice aA a.length ac, .slice bA b.length bc])]) Tryz.func28 rfl rfl Tryz.ntmps28 rfl rfl (Wd.start (bs w)) ?_
 refine s2 ?_
 refine aW (oX [_, _]) (fun b1 hb1 => ?_)
 refine s5 ?_
 refine aW (ow_makeSet (kt := 38) (kv := kN) (ok := okN2) rfl rfl rfl (fun _ => by kernel_rfl)) (fun b16 hb16 => ?_)
 refine aW oA (fun b3 hb3 => ?_)
 refine s4 ?_
 refine xD [0, 1, 2, 3, 4, 5] [1, 3] ?_
 refine dP rfl (rp_arrC rfl rfl rfl ia_75_0 rfl) ?_
 refine s1 ?_
 refine dP rfl (rp_arrC rfl rfl rfl ia_75_1 rfl) ?_
 refine s6 ?_
 refine J_defs ?_
 refine kJ [(1, _), (3, _), (4, _), (5, _)] ?_
 refine s2 ?_
 refine aCB (fun w hw => nearS_any a _ w (hA.up ERd hw.bel)) ?_
 refine s8 ?_
 refine kJ [(1, _), (3, _), (4, _), (5, _), (6, _), (7, _)] ?_
 refine s2 ?_
 refine aCB (fun w hw => nearS_any b _ w (hB.up ERd hw.bel)) ?_
 refine s9 ?_
 refine kJ [(1, _), (3, _), (4, _), (5, _), (6, _), (7, _), (8, _), (9, _)] ?_
 refine s2 ?_
 refine aCB (fun w hw => away_any a _ w (hA.up ERd hw.bel)) ?_
 refine JL_bool (fun h32 => ?_) (fun h32 => ?_)
 ·refine s2 ?_
  refine aCB (fun w hw => away_any b _ w (hB.up ERd hw.bel)) ?_
  refine JL_bool (fun h35 => ?_) (fun h35 => ?_)
  ·refine s13 ?_
   refine kJ [(1, _), (3, _)] ?_
   refine s2 ?_
   refine aP (rp_buildC (fun us => [us.getD 0 undef, .int .i64 0]) rfl rfl (fun w => by kernel_rfl)) ?_
   refine aW0 (ow_putS KSC LBool (-1, 0) Und.h rfl rfl rfl rfl rfl rfl rfl (by repeat constructor) ⟨by unfold W64; dsimp only; omega, by unfold W64; dsimp only; omega⟩ (by simp)) ?_
   refine s4 ?_
   have hbl : blB a b = true := by unfold blB; rw [h32, h35]; rfl
   have hk0 : scK a b 0 = [(-1, 0)] := by show (if blB a b = true then [((-1 : Int), (0 : Int))] else []) = _; rw [hbl]; rfl
   rw [← hk0]
   refine s6 ?_
   refine J_loopD (T := Nat × List Nat) (fun q => ⟨w, fun _ => False, none, q.2.map mark⟩) (r := none) (fun _ => rfl) (fun q => q.1 ≤ 2) (fun q => [(1, .pointer (some ⟨b1, 0, none⟩)), (3, .pointer (some ⟨b3, 0, none⟩)), (48, .agg #[.slice aA a.length ac, .slice bA b.length bc]), (49, .int .i64 (q.1 : Nat))]) (fun q => [cellB b1 [.slice aA a.length ac, .slice bA b.length bc] 75, cellB b3 [.map (some b16)] 78, setB Tryz.prog 38 kN okN2 b16 (scK a b q.1), defsB q.2]) (fun q => 2 - q.1) (0, []) (by decide) (by exact cov) (by repeat constructor) ?_
   rintro ⟨i, Ds⟩ hi
   dsimp only at hi ⊢
   refine s3 ?_
   refine JL_dec (fun h50 => ?_) (fun h50 => ?_)
   ·refine s9 ?_
    rcases (show i = 0 ∨ i = 1 by omega) with rfl | rfl
    ·refine s2 ?_
     refine aP (rp_run2 (f := fun u v => Instr.index 75 u v) (fun _ => rfl) rfl rfl (ix_75_0 _ _)) ?_
     refine aW oA (fun b10 hb10 => ?_)
     refine aW oA (fun b11 hb11 => ?_)
     refine s5 ?_
     refine xDx [0, 1, 2, 3, 4, 5] [0, 4] [1] [cellB b10 [.int .i64 0] 3] ?_
     refine s3 ?_
     refine dP rfl (rp_arrC rfl rfl rfl ia_75_1 rfl) ?_
     refine s1 ?_
     refine dW rfl (oR (fun w hw => limits_any _ _ _ _ _ _ w)) (fun t58 _ => ?_)
     obtain ⟨bs, bo⟩ := t58
     dsimp only
     refine s3 ?_
     refine kJ [(1, _), (3, _), (10, _), (11, _), (48, _), (49, _), (58, _)] ?_
     refine J_rangeI (T := LmT) (Y := Int) (Ds := Ds) (p := 59) (fun t => t.n ≤ (limL a b).length ∧ t.S = accS 0 a ((limL a b).take t.n) (scK a b 0)) (fun t X => [cellB bs [.slice aA a.length ac] 74, cellB bo [.slice bA b.length bc] 74, cellB b1 [.slice aA a.length ac, .slice bA b.length bc] 75, cellB b3 [.map (some b16)] 78, cellB b10 [.int .i64 0] 3, cellB b11 [.slice aA a.length ac] 74, setB Tryz.prog 38 kN okN2 b16 (t.S), X]) (fun t y => (limL a b)[t.n]? = some y) (fun y => .int .i64 y) (fun t y X => [cellB bs [.slice aA a.length ac] 74, cellB bo [.slice bA b.length bc] 74, cellB b1 [.slice aA a.length ac, .slice bA b.length bc] 75, cellB b3 [.map (some b16)] 78, cellB b10 [.int .i64 0] 3, cellB b11 [.slice aA a.length ac] 74, setB Tryz.prog 38 kN okN2 b16 (t.S), X]) (fun t t' => t'.n = t.n + 1) (fun t => t.n = (limL a b).length) (fun t => t.n = 0) (fun y => [(3, .pointer (some ⟨b3, 0, none⟩)), (10, .pointer (some ⟨b10, 0, none⟩)), (11, .pointer (some ⟨b11, 0, none⟩)), (12, .int .i64 y)]) (limits1_any a b aA bA ac bc bs bo w (cellB b1 [.slice aA a.length ac, .slice bA b.length bc] 75) (cellB b3 [.map (some b16)] 78) (cellB b10 [.int .i64 0] 3) (cellB b11 [.slice aA a.length ac] 74) (fun S => setB Tryz.prog 38 kN okN2 b16 (S)) (fun t => t.S = accS 0 a ((limL a b).take t.n) (scK a b 0)) hA hB hkb) (⟨0, (scK a b 0)⟩) (⟨Nat.zero_le _, rfl⟩) (rfl) ?_ ?_ ?_
     ·rintro lp t y X ⟨ht1, ht2⟩ hy
      dsimp only at hy ⊢
      have hca := ca_len a y
      have hmu := mu_len a y
      have hSl : t.S.length ≤ 1700 := by
       rw [ht2]
       have z1 := accS_len 0 a ((limL a b).take t.n) (scK a b 0)
       have z2 := limL_len a b
       have z3 : ((limL a b).take t.n).length * a.length ≤ 34 * 16 := Nat.mul_le_mul (by rw [List.length_take]; omega) hla
       have z4 := hsl 0
       omega
      refine kJ [(3, _), (10, _), (11, _), (59, _)] ?_
      refine s3 ?_
      exact xE () trivial
     ·rintro lp t y X ⟨ht1, ht2⟩ hy
      dsimp only at hy ⊢
      have hca := ca_len a y
      have hmu := mu_len a y
      have hSl : t.S.length ≤ 1700 := by
       rw [ht2]
       have z1 := accS_len 0 a ((limL a b).take t.n) (scK a b 0)
       have z2 := limL_len a b
       have z3 : ((limL a b).take t.n).length * a.length ≤ 34 * 16 := Nat.mul_le_mul (by rw [List.length_take]; omega) hla
       have z4 := hsl 0
       omega
      refine s5 ?_
      refine aCB (fun w hw => up_any a y _ w (hA.up ERd (hw.un (r' := none) (d' := [])).bel) (by omega)) ?_
      refine s8 ?_
      refine kJ [(3, _), (10, _), (13, _), (14, _)] ?_
      refine s7 ?_
      obtain ⟨m, hm⟩ : ∃ m : Nat, max 1 (muN a y) = m := ⟨_, rfl⟩
      refine xL (T := Nat) (fun j => j ≤ caN a y + 1 - max 1 (muN a y)) (fun j => [(3, .pointer (some ⟨b3, 0, none⟩)), (10, .pointer (some ⟨b10, 0, none⟩)), (14, .int .i64 ((caN a y : Nat) : Int)), (15, .int .i64 ((m + j : Nat) : Int))]) (fun j => [cellB bs [.slice aA a.length ac] 74, cellB bo [.slice bA b.length bc] 74, cellB b1 [.slice aA a.length ac, .slice bA b.length bc] 75, cellB b3 [.map (some b16)] 78, cellB b10 [.int .i64 0] 3, cellB b11 [.slice aA a.length ac] 74, setB Tryz.prog 38 kN okN2 b16 (nsL 0 m j ++ t.S), X]) (fun j => caN a y + 1 - max 1 (muN a y) - j) 0 (Nat.zero_le _) ?_ (hl := ⟨rfl, rfl, rfl, (congrArg some (congrArg (Value.int .i64) (by omega))), trivial⟩)
      rintro j hj
      refine s6 ?_
      refine JL_dec (fun h70 => ?_) (fun h70 => ?_)
      ·refine s11 ?_
       refine aP (rp_buildC (fun us => [us.getD 0 undef, us.getD 1 undef]) rfl rfl (fun w => by kernel_rfl)) ?_
       refine aW0 (ow_putS KSC LBool (0, ((m + j : Nat) : Int)) Und.h rfl rfl rfl rfl rfl rfl rfl (by repeat constructor) ⟨by unfold W64; dsimp only; omega, by unfold W64; dsimp only; omega⟩ (by rw [List.length_append, nsL_len]; omega)) ?_
       refine s3 ?_
       refine kJ [(3, _), (10, _), (14, _), (15, _)] ?_
       refine s5 ?_
       have hs := nsL_s 0 m j
       exact xR (j + 1) (by omega) (by omega) (hl := ⟨rfl, rfl, rfl, (congrArg some (congrArg (Value.int .i64) (by omega))), trivial⟩) (hH := by (try dsimp only); rw [hs]; repeat constructor)
      ·refine s8 ?_
       have hyl := (List.getElem?_eq_some_iff.1 hy).1
       have hje : j = caN a y + 1 - max 1 (muN a y) := by omega
       have hfS : nsL 0 m j ++ t.S = accS 0 a ((limL a b).take (t.n + 1)) (scK a b 0) := by rw [accS_s hy, ← ht2, hje, ← hm]; rfl
       exact xE (⟨t.n + 1, nsL 0 m j ++ t.S⟩ : LmT) ⟨rfl, by dsimp only; omega, hfS⟩
     ·rintro D t ⟨ht1, ht2⟩ hfin
      have hS : t.S = scK a b 1 := by rw [ht2, hfin, List.take_length]; rfl
      rw [hS]
      refine s7 ?_
      refine JQ_round (B := fun q : Nat × List Nat => ⟨w, fun _ => False, none, q.2.map mark⟩) (1, D :: Ds) (by dsimp only; omega) (by dsimp only; omega) ?_ (by repeat constructor)
      exact ⟨rfl, rfl, rfl, rfl, trivial⟩
    ·refine s2 ?_
     refine aP (rp_run2 (f := fun u v => Instr.index 75 u v) (fun _ => rfl) rfl rfl (ix_75_1 _ _)) ?_
     refine aW oA (fun b10 hb10 => ?_)
     refine aW oA (fun b11 hb11 => ?_)
     refine s5 ?_
     refine xDx [0, 1, 2, 3, 4, 5] [0, 4] [1] [cellB b10 [.int .i64 1] 3] ?_
     refine s3 ?_
     refine dP rfl (rp_arrC rfl rfl rfl ia_75_0 rfl) ?_
     refine s1 ?_
     refine dW rfl (oR (fun w hw => limits_any _ _ _ _ _ _ w)) (fun t58 _ => ?_)
     obtain ⟨bs, bo⟩ := t58
     dsimp only
     refine s3 ?_
     refine kJ [(1, _), (3, _), (10, _), (11, _), (48, _), (49, _), (58, _)] ?_
     refine J_rangeI (T := LmT) (Y := Int) (Ds := Ds) (p := 59) (fun t => t.n ≤ (limL b a).length ∧ t.S = accS 1 b ((limL b a).take t.n) (scK a b 1)) (fun t X => [cellB bs [.slice bA b.length bc] 74, cellB bo [.slice aA a.length ac] 74, cellB b1 [.slice aA a.length ac, .slice bA b.length bc] 75, cellB b3 [.map (some b16)] 78, cellB b10 [.int .i64 1] 3, cellB b11 [.slice bA b.length bc] 74, setB Tryz.prog 38 kN okN2 b16 (t.S), X]) (fun t y => (limL b a)[t.n]? = some y) (fun y => .int .i64 y) (fun t y X => [cellB bs [.slice bA b.length bc] 74, cellB bo [.slice aA a.length ac] 74, cellB b1 [.slice aA a.length ac, .slice bA b.length bc] 75, cellB b3 [.map (some b16)] 78, cellB b10 [.int .i64 1] 3, cellB b11 [.slice bA b.length bc] 74, setB Tryz.prog 38 kN okN2 b16 (t.S), X]) (fun t t' => t'.n = t.n + 1) (fun t => t.n = (limL b a).length) (fun t => t.n = 0) (fun y => [(3, .pointer (some ⟨b3, 0, none⟩)), (10, .pointer (some ⟨b10, 0, none⟩)), (11, .pointer (some ⟨b11, 0, none⟩)), (12, .int .i64 y)]) (limits1_any b a bA aA bc ac bs bo w (cellB b1 [.slice aA a.length ac, .slice bA b.length bc] 75) (cellB b3 [.map (some b16)] 78) (cellB b10 [.int .i64 1] 3) (cellB b11 [.slice bA b.length bc] 74) (fun S => setB Tryz.prog 38 kN okN2 b16 (S)) (fun t => t.S = accS 1 b ((limL b a).take t.n) (scK a b 1)) hB hA hka) (⟨0, (scK a b 1)⟩) (⟨Nat.zero_le _, rfl⟩) (rfl) ?_ ?_ ?_
     ·rintro lp t y X ⟨ht1, ht2⟩ hy
      dsimp only at hy ⊢
      have hca := ca_len b y
      have hmu := mu_len b y
      have hSl : t.S.length ≤ 1700 := by
       rw [ht2]
       have z1 := accS_len 1 b ((limL b a).take t.n) (scK a b 1)
       have z2 := limL_len b a
       have z3 : ((limL b a).take t.n).length * b.length ≤ 34 * 16 := Nat.mul_le_mul (by rw [List.length_take]; omega) hlb
       have z4 := hsl 1
       omega
      refine kJ [(3, _), (10, _), (11, _), (59, _)] ?_
      refine s3 ?_
      exact xE () trivial
     ·rintro lp t y X ⟨ht1, ht2⟩ hy
      dsimp only at hy ⊢
      have hca := ca_len b y
      have hmu := mu_len b y
      have hSl : t.S.length ≤ 1700 := by
       rw [ht2]
       have z1 := accS_len 1 b ((limL b a).take t.n) (scK a b 1)
       have z2 := limL_len b a
       have z3 : ((limL b a).take t.n).length * b.length ≤ 34 * 16 := Nat.mul_le_mul (by rw [List.length_take]; omega) hlb
       have z4 := hsl 1
       omega
      refine s5 ?_
      refine aCB (fun w hw => up_any b y _ w (hB.up ERd (hw.un (r' := none) (d' := [])).bel) (by omega)) ?_
      refine s8 ?_
      refine kJ [(3, _), (10, _), (13, _), (14, _)] ?_
      refine s7 ?_
      obtain ⟨m, hm⟩ : ∃ m : Nat, max 1 (muN b y) = m := ⟨_, rfl⟩
      refine xL (T := Nat) (fun j => j ≤ caN b y + 1 - max 1 (muN b y)) (fun j => [(3, .pointer (some ⟨b3, 0, none⟩)), (10, .pointer (some ⟨b10, 0, none⟩)), (14, .int .i64 ((caN b y : Nat) : Int)), (15, .int .i64 ((m + j : Nat) : Int))]) (fun j => [cellB bs [.slice bA b.length bc] 74, cellB bo [.slice aA a.length ac] 74, cellB b1 [.slice aA a.length ac, .slice bA b.length bc] 75, cellB b3 [.map (some b16)] 78, cellB b10 [.int .i64 1] 3, cellB b11 [.slice bA b.length bc] 74, setB Tryz.prog 38 kN okN2 b16 (nsL 1 m j ++ t.S), X]) (fun j => caN b y + 1 - max 1 (muN b y) - j) 0 (Nat.zero_le _) ?_ (hl := ⟨rfl, rfl, rfl, (congrArg some (congrArg (Value.int .i64) (by omega))), trivial⟩)
      rintro j hj
      refine s6 ?_
      refine JL_dec (fun h70 => ?_) (fun h70 => ?_)
      ·refine s11 ?_
       refine aP (rp_buildC (fun us => [us.getD 0 undef, us.getD 1 undef]) rfl rfl (fun w => by kernel_rfl)) ?_
       refine aW0 (ow_putS KSC LBool (1, ((m + j : Nat) : Int)) Und.h rfl rfl rfl rfl rfl rfl rfl (by repeat constructor) ⟨by unfold W64; dsimp only; omega, by unfold W64; dsimp only; omega⟩ (by rw [List.length_append, nsL_len]; omega)) ?_
       refine s3 ?_
       refine kJ [(3, _), (10, _), (14, _), (15, _)] ?_
       refine s5 ?_
       have hs := nsL_s 1 m j
       exact xR (j + 1) (by omega) (by omega) (hl := ⟨rfl, rfl, rfl, (congrArg some (congrArg (Value.int .i64) (by omega))), trivial⟩) (hH := by (try dsimp only); rw [hs]; repeat constructor)
      ·refine s8 ?_
       have hyl := (List.getElem?_eq_some_iff.1 hy).1
       have hje : j = caN b y + 1 - max 1 (muN b y) := by omega
       have hfS : nsL 1 m j ++ t.S = accS 1 b ((limL b a).take (t.n + 1)) (scK a b 1) := by rw [accS_s hy, ← ht2, hje, ← hm]; rfl
       exact xE (⟨t.n + 1, nsL 1 m j ++ t.S⟩ : LmT) ⟨rfl, by dsimp only; omega, hfS⟩
     ·rintro D t ⟨ht1, ht2⟩ hfin
      have hS : t.S = scK a b 2 := by rw [ht2, hfin, List.take_length]; rfl
      rw [hS]
      refine s7 ?_
      refine JQ_round (B := fun q : Nat × List Nat => ⟨w, fun _ => False, none, q.2.map mark⟩) (2, D :: Ds) (by dsimp only; omega) (by dsimp only; omega) ?_ (by repeat constructor)
      exact ⟨rfl, rfl, rfl, rfl, trivial⟩
   ·refine s10 ?_
    refine kJ [(3, _)] ?_
    refine s6 ?_
    refine JR_marks (fun X => [setB Tryz.prog 38 kN okN2 b16 (scK a b i), X]) rfl (fun _ => rr_tmp rfl) ?_
    intro w' hw
    obtain rfl : i = 2 := by omega
    exact ⟨b16, trivial, rfl, (hw.un (r' := none) (d' := [])).pick (by repeat constructor)⟩
  ·refine s9 ?_
   refine JL_dec (fun h44 => ?_) (fun h44 => ?_)
   ·refine s4 ?_
    refine kJ [(1, _), (3, _)] ?_
    refine s2 ?_
    refine aP (rp_buildC (fun us => [us.getD 0 undef, .int .i64 0]) rfl rfl (fun w => by kernel_rfl)) ?_
    refine aW0 (ow_putS KSC LBool (-1, 0) Und.h rfl rfl rfl rfl rfl rfl rfl (by repeat constructor) ⟨by unfold W64; dsimp only; omega, by unfold W64; dsimp only; omega⟩ (by simp)) ?_
    refine s4 ?_
    have hbl : blB a b = true := by unfold blB; rw [h32, h35, Bool.true_and, Bool.false_or]; exact decide_eq_true (by omega)
    have hk0 : scK a b 0 = [(-1, 0)] := by show (if blB a b = true then [((-1 : Int), (0 : Int))] else []) = _; rw [hbl]; rfl
    rw [← hk0]
    refine s6 ?_
    refine J_loopD (T := Nat × List Nat) (fun q => ⟨w, fun _ => False, none, q.2.map mark⟩) (r := none) (fun _ => rfl) (fun q => q.1 ≤ 2) (fun q => [(1, .pointer (some ⟨b1, 0, none⟩)), (3, .pointer (some ⟨b3, 0, none⟩)), (48, .agg #[.slice aA a.length ac, .slice bA b.length bc]), (49, .int .i64 (q.1 : Nat))]) (fun q => [cellB b1 [.slice aA a.length ac, .slice bA b.length bc] 75, cellB b3 [.map (some b16)] 78, setB Tryz.prog 38 kN okN2 b16 (scK a b q.1), defsB q.2]) (fun q => 2 - q.1) (0, []) (by decide) (by exact cov) (by repeat constructor) ?_
    rintro ⟨i, Ds⟩ hi
    dsimp only at hi ⊢
    refine s3 ?_
    refine JL_dec (fun h50 => ?_) (fun h50 => ?_)
    ·refine s9 ?_
     rcases (show i = 0 ∨ i = 1 by omega) with rfl | rfl
     ·refine s2 ?_
      refine aP (rp_run2 (f := fun u v => Instr.index 75 u v) (fun _ => rfl) rfl rfl (ix_75_0 _ _)) ?_
      refine aW oA (fun b10 hb10 => ?_)
      refine aW oA (fun b11 hb11 => ?_)
      refine s5 ?_
      refine xDx [0, 1, 2, 3, 4, 5] [0, 4] [1] [cellB b10 [.int .i64 0] 3] ?_
      refine s3 ?_
      refine dP rfl (rp_arrC rfl rfl rfl ia_75_1 rfl) ?_
      refine s1 ?_
      refine dW rfl (oR (fun w hw => limits_any _ _ _ _ _ _ w)) (fun t58 _ => ?_)
      obtain ⟨bs, bo⟩ := t58
      dsimp only
      refine s3 ?_
      refine kJ [(1, _), (3, _), (10, _), (11, _), (48, _), (49, _), (58, _)] ?_
      refine J_rangeI (T := LmT) (Y := Int) (Ds := Ds) (p := 59) (fun t => t.n ≤ (limL a b).length ∧ t.S = accS 0 a ((limL a b).take t.n) (scK a b 0)) (fun t X => [cellB bs [.slice aA a.length ac] 74, cellB bo [.slice bA b.length bc] 74, cellB b1 [.slice aA a.length ac, .slice bA b.length bc] 75, cellB b3 [.map (some b16)] 78, cellB b10 [.int .i64 0] 3, cellB b11 [.slice aA a.length ac] 74, setB Tryz.prog 38 kN okN2 b16 (t.S), X]) (fun t y => (limL a b)[t.n]? = some y) (fun y => .int .i64 y) (fun t y X => [cellB bs [.slice aA a.length ac] 74, cellB bo [.slice bA b.length bc] 74, cellB b1 [.slice aA a.length ac, .slice bA b.length bc] 75, cellB b3 [.map (some b16)] 78, cellB b10 [.int .i64 0] 3, cellB b11 [.slice aA a.length ac] 74, setB Tryz.prog 38 kN okN2 b16 (t.S), X]) (fun t t' => t'.n = t.n + 1) (fun t => t.n = (limL a b).length) (fun t => t.n = 0) (fun y => [(3, .pointer (some ⟨b3, 0, none⟩)), (10, .pointer (some ⟨b10, 0, none⟩)), (11, .pointer (some ⟨b11, 0, none⟩)), (12, .int .i64 y)]) (limits1_any a b aA bA ac bc bs bo w (cellB b1 [.slice aA a.length ac, .slice bA b.length bc] 75) (cellB b3 [.map (some b16)] 78) (cellB b10 [.int .i64 0] 3) (cellB b11 [.slice aA a.length ac] 74) (fun S => setB Tryz.prog 38 kN okN2 b16 (S)) (fun t => t.S = accS 0 a ((limL a b).take t.n) (scK a b 0)) hA hB hkb) (⟨0, (scK a b 0)⟩) (⟨Nat.zero_le _, rfl⟩) (rfl) ?_ ?_ ?_
      ·rintro lp t y X ⟨ht1, ht2⟩ hy
       dsimp only at hy ⊢
       have hca := ca_len a y
       have hmu := mu_len a y
       have hSl : t.S.length ≤ 1700 := by
        rw [ht2]
        have z1 := accS_len 0 a ((limL a b).take t.n) (scK a b 0)
        have z2 := limL_len a b
        have z3 : ((limL a b).take t.n).length * a.length ≤ 34 * 16 := Nat.mul_le_mul (by rw [List.length_take]; omega) hla
        have z4 := hsl 0
        omega
       refine kJ [(3, _), (10, _), (11, _), (59, _)] ?_
       refine s3 ?_
       exact xE () trivial
      ·rintro lp t y X ⟨ht1, ht2⟩ hy
       dsimp only at hy ⊢
       have hca := ca_len a y
       have hmu := mu_len a y
       have hSl : t.S.length ≤ 1700 := by
        rw [ht2]
        have z1 := accS_len 0 a ((limL a b).take t.n) (scK a b 0)
        have z2 := limL_len a b
        have z3 : ((limL a b).take t.n).length * a.length ≤ 34 * 16 := Nat.mul_le_mul (by rw [List.length_take]; omega) hla
        have z4 := hsl 0
        omega
       refine s5 ?_
       refine aCB (fun w hw => up_any a y _ w (hA.up ERd (hw.un (r' := none) (d' := [])).bel) (by omega)) ?_
       refine s8 ?_
       refine kJ [(3, _), (10, _), (13, _), (14, _)] ?_
       refine s7 ?_
       obtain ⟨m, hm⟩ : ∃ m : Nat, max 1 (muN a y) = m := ⟨_, rfl⟩
       refine xL (T := Nat) (fun j => j ≤ caN a y + 1 - max 1 (muN a y)) (fun j => [(3, .pointer (some ⟨b3, 0, none⟩)), (10, .pointer (some ⟨b10, 0, none⟩)), (14, .int .i64 ((caN a y : Nat) : Int)), (15, .int .i64 ((m + j : Nat) : Int))]) (fun j => [cellB bs [.slice aA a.length ac] 74, cellB bo [.slice bA b.length bc] 74, cellB b1 [.slice aA a.length ac, .slice bA b.length bc] 75, cellB b3 [.map (some b16)] 78, cellB b10 [.int .i64 0] 3, cellB b11 [.slice aA a.length ac] 74, setB Tryz.prog 38 kN okN2 b16 (nsL 0 m j ++ t.S), X]) (fun j => caN a y + 1 - max 1 (muN a y) - j) 0 (Nat.zero_le _) ?_ (hl := ⟨rfl, rfl, rfl, (congrArg some (congrArg (Value.int .i64) (by omega))), trivial⟩)
       rintro j hj
       refine s6 ?_
       refine JL_dec (fun h70 => ?_) (fun h70 => ?_)
       ·refine s11 ?_
        refine aP (rp_buildC (fun us => [us.getD 0 undef, us.getD 1 undef]) rfl rfl (fun w => by kernel_rfl)) ?_
        refine aW0 (ow_putS KSC LBool (0, ((m + j : Nat) : Int)) Und.h rfl rfl rfl rfl rfl rfl rfl (by repeat constructor) ⟨by unfold W64; dsimp only; omega, by unfold W64; dsimp only; omega⟩ (by rw [List.length_append, nsL_len]; omega)) ?_
        refine s3 ?_
        refine kJ [(3, _), (10, _), (14, _), (15, _)] ?_
        refine s5 ?_
        have hs := nsL_s 0 m j
        exact xR (j + 1) (by omega) (by omega) (hl := ⟨rfl, rfl, rfl, (congrArg some (congrArg (Value.int .i64) (by omega))), trivial⟩) (hH := by (try dsimp only); rw [hs]; repeat constructor)
       ·refine s8 ?_
        have hyl := (List.getElem?_eq_some_iff.1 hy).1
        have hje : j = caN a y + 1 - max 1 (muN a y) := by omega
        have hfS : nsL 0 m j ++ t.S = accS 0 a ((limL a b).take (t.n + 1)) (scK a b 0) := by rw [accS_s hy, ← ht2, hje, ← hm]; rfl
        exact xE (⟨t.n + 1, nsL 0 m j ++ t.S⟩ : LmT) ⟨rfl, by dsimp only; omega, hfS⟩
      ·rintro D t ⟨ht1, ht2⟩ hfin
       have hS : t.S = scK a b 1 := by rw [ht2, hfin, List.take_length]; rfl
       rw [hS]
       refine s7 ?_
       refine JQ_round (B := fun q : Nat × List Nat => ⟨w, fun _ => False, none, q.2.map mark⟩) (1, D :: Ds) (by dsimp only; omega) (by dsimp only; omega) ?_ (by repeat constructor)
       exact ⟨rfl, rfl, rfl, rfl, trivial⟩
     ·refine s2 ?_
      refine aP (rp_run2 (f := fun u v => Instr.index 75 u v) (fun _ => rfl) rfl rfl (ix_75_1 _ _)) ?_
      refine aW oA (fun b10 hb10 => ?_)
      refine aW oA (fun b11 hb11 => ?_)
      refine s5 ?_
      refine xDx [0, 1, 2, 3, 4, 5] [0, 4] [1] [cellB b10 [.int .i64 1] 3] ?_
      refine s3 ?_
      refine dP rfl (rp_arrC rfl rfl rfl ia_75_0 rfl) ?_
      refine s1 ?_
      refine dW rfl (oR (fun w hw => limits_any _ _ _ _ _ _ w)) (fun t58 _ => ?_)
      obtain ⟨bs, bo⟩ := t58
      dsimp only
      refine s3 ?_
      refine kJ [(1, _), (3, _), (10, _), (11, _), (48, _), (49, _), (58, _)] ?_
      refine J_rangeI (T := LmT) (Y := Int) (Ds := Ds) (p := 59) (fun t => t.n ≤ (limL b a).length ∧ t.S = accS 1 b ((limL b a).take t.n) (scK a b 1)) (fun t X => [cellB bs [.slice bA b.length bc] 74, cellB bo [.slice aA a.length ac] 74, cellB b1 [.slice aA a.length ac, .slice bA b.length bc] 75, cellB b3 [.map (some b16)] 78, cellB b10 [.int .i64 1] 3, cellB b11 [.slice bA b.length bc] 74, setB Tryz.prog 38 kN okN2 b16 (t.S), X]) (fun t y => (limL b a)[t.n]? = some y) (fun y => .int .i64 y) (fun t y X => [cellB bs [.slice bA b.length bc] 74, cellB bo [.slice aA a.length ac] 74, cellB b1 [.slice aA a.length ac, .slice bA b.length bc] 75, cellB b3 [.map (some b16)] 78, cellB b10 [.int .i64 1] 3, cellB b11 [.slice bA b.length bc] 74, setB Tryz.prog 38 kN okN2 b16 (t.S), X]) (fun t t' => t'.n = t.n + 1) (fun t => t.n = (limL b a).length) (fun t => t.n = 0) (fun y => [(3, .pointer (some ⟨b3, 0, none⟩)), (10, .pointer (some ⟨b10, 0, none⟩)), (11, .pointer (some ⟨b11, 0, none⟩)), (12, .int .i64 y)]) (limits1_any b a bA aA bc ac bs bo w (cellB b1 [.slice aA a.length ac, .slice bA b.length bc] 75) (cellB b3 [.map (some b16)] 78) (cellB b10 [.int .i64 1] 3) (cellB b11 [.slice bA b.length bc] 74) (fun S => setB Tryz.prog 38 kN okN2 b16 (S)) (fun t => t.S = accS 1 b ((limL b a).take t.n) (scK a b 1)) hB hA hka) (⟨0, (scK a b 1)⟩) (⟨Nat.zero_le _, rfl⟩) (rfl) ?_ ?_ ?_
      ·rintro lp t y X ⟨ht1, ht2⟩ hy
       dsimp only at hy ⊢
       have hca := ca_len b y
       have hmu := mu_len b y
       have hSl : t.S.length ≤ 1700 := by
        rw [ht2]
        have z1 := accS_len 1 b ((limL b a).take t.n) (scK a b 1)
        have z2 := limL_len b a
        have z3 : ((limL b a).take t.n).length * b.length ≤ 34 * 16 := Nat.mul_le_mul (by rw [List.length_take]; omega) hlb
        have z4 := hsl 1
        omega
       refine kJ [(3, _), (10, _), (11, _), (59, _)] ?_
       refine s3 ?_
       exact xE () trivial
      ·rintro lp t y X ⟨ht1, ht2⟩ hy
       dsimp only at hy ⊢
       have hca := ca_len b y
       have hmu := mu_len b y
       have hSl : t.S.length ≤ 1700 := by
        rw [ht2]
        have z1 := accS_len 1 b ((limL b a).take t.n) (scK a b 1)
        have z2 := limL_len b a
        have z3 : ((limL b a).take t.n).length * b.length ≤ 34 * 16 := Nat.mul_le_mul (by rw [List.length_take]; omega) hlb
        have z4 := hsl 1
        omega
       refine s5 ?_
       refine aCB (fun w hw => up_any b y _ w (hB.up ERd (hw.un (r' := none) (d' := [])).bel) (by omega)) ?_
       refine s8 ?_
       refine kJ [(3, _), (10, _), (13, _), (14, _)] ?_
       refine s7 ?_
       obtain ⟨m, hm⟩ : ∃ m : Nat, max 1 (muN b y) = m := ⟨_, rfl⟩
       refine xL (T := Nat) (fun j => j ≤ caN b y + 1 - max 1 (muN b y)) (fun j => [(3, .pointer (some ⟨b3, 0, none⟩)), (10, .pointer (some ⟨b10, 0, none⟩)), (14, .int .i64 ((caN b y : Nat) : Int)), (15, .int .i64 ((m + j : Nat) : Int))]) (fun j => [cellB bs [.slice bA b.length bc] 74, cellB bo [.slice aA a.length ac] 74, cellB b1 [.slice aA a.length ac, .slice bA b.length bc] 75, cellB b3 [.map (some b16)] 78, cellB b10 [.int .i64 1] 3, cellB b11 [.slice bA b.length bc] 74, setB Tryz.prog 38 kN okN2 b16 (nsL 1 m j ++ t.S), X]) (fun j => caN b y + 1 - max 1 (muN b y) - j) 0 (Nat.zero_le _) ?_ (hl := ⟨rfl, rfl, rfl, (congrArg some (congrArg (Value.int .i64) (by omega))), trivial⟩)
       rintro j hj
       refine s6 ?_
       refine JL_dec (fun h70 => ?_) (fun h70 => ?_)
       ·refine s11 ?_
        refine aP (rp_buildC (fun us => [us.getD 0 undef, us.getD 1 undef]) rfl rfl (fun w => by kernel_rfl)) ?_
        refine aW0 (ow_putS KSC LBool (1, ((m + j : Nat) : Int)) Und.h rfl rfl rfl rfl rfl rfl rfl (by repeat constructor) ⟨by unfold W64; dsimp only; omega, by unfold W64; dsimp only; omega⟩ (by rw [List.length_append, nsL_len]; omega)) ?_
        refine s3 ?_
        refine kJ [(3, _), (10, _), (14, _), (15, _)] ?_
        refine s5 ?_
        have hs := nsL_s 1 m j
        exact xR (j + 1) (by omega) (by omega) (hl := ⟨rfl, rfl, rfl, (congrArg some (congrArg (Value.int .i64) (by omega))), trivial⟩) (hH := by (try dsimp only); rw [hs]; repeat constructor)
       ·refine s8 ?_
        have hyl := (List.getElem?_eq_some_iff.1 hy).1
        have hje : j = caN b y + 1 - max 1 (muN b y) := by omega
        have hfS : nsL 1 m j ++ t.S = accS 1 b ((limL b a).take (t.n + 1)) (scK a b 1) := by rw [accS_s hy, ← ht2, hje, ← hm]; rfl
        exact xE (⟨t.n + 1, nsL 1 m j ++ t.S⟩ : LmT) ⟨rfl, by dsimp only; omega, hfS⟩
      ·rintro D t ⟨ht1, ht2⟩ hfin
       have hS : t.S = scK a b 2 := by rw [ht2, hfin, List.take_length]; rfl
       rw [hS]
       refine s7 ?_
       refine JQ_round (B := fun q : Nat × List Nat => ⟨w, fun _ => False, none, q.2.map mark⟩) (2, D :: Ds) (by dsimp only; omega) (by dsimp only; omega) ?_ (by repeat constructor)
       exact ⟨rfl, rfl, rfl, rfl, trivial⟩
    ·refine s10 ?_
     refine kJ [(3, _)] ?_
     refine s6 ?_
     refine JR_marks (fun X => [setB Tryz.prog 38 kN okN2 b16 (scK a b i), X]) rfl (fun _ => rr_tmp rfl) ?_
     intro w' hw
     obtain rfl : i = 2 := by omega
     exact ⟨b16, trivial, rfl, (hw.un (r' := none) (d' := [])).pick (by repeat constructor)⟩
   ·refine s8 ?_
    have hbl : blB a b = false := by unfold blB; rw [h32, h35, Bool.true_and, Bool.false_or]; exact decide_eq_false (by omega)
    have hk0 : scK a b 0 = [] := by show (if blB a b = true then [((-1 : Int), (0 : Int))] else []) = _; rw [hbl]; rfl
    rw [← hk0]
    refine kJ [(1, _), (3, _)] ?_
    refine s6 ?_
    refine J_loopD (T := Nat × List Nat) (fun q => ⟨w, fun _ => False, none, q.2.map mark⟩) (r := none) (fun _ => rfl) (fun q => q.1 ≤ 2) (fun q => [(1, .pointer (some ⟨b1, 0, none⟩)), (3, .pointer (some ⟨b3, 0, none⟩)), (48, .agg #[.slice aA a.length ac, .slice bA b.length bc]), (49, .int .i64 (q.1 : Nat))]) (fun q => [cellB b1 [.slice aA a.length ac, .slice bA b.length bc] 75, cellB b3 [.map (some b16)] 78, setB Tryz.prog 38 kN okN2 b16 (scK a b q.1), defsB q.2]) (fun q => 2 - q.1) (0, []) (by decide) (by exact cov) (by repeat constructor) ?_
    rintro ⟨i, Ds⟩ hi
    dsimp only at hi ⊢
    refine s3 ?_
    refine JL_dec (fun h50 => ?_) (fun h50 => ?_)
    ·refine s9 ?_
     rcases (show i = 0 ∨ i = 1 by omega) with rfl | rfl
     ·refine s2 ?_
      refine aP (rp_run2 (f := fun u v => Instr.index 75 u v) (fun _ => rfl) rfl rfl (ix_75_0 _ _)) ?_
      refine aW oA (fun b10 hb10 => ?_)
      refine aW oA (fun b11 hb11 => ?_)
      refine s5 ?_
      refine xDx [0, 1, 2, 3, 4, 5] [0, 4] [1] [cellB b10 [.int .i64 0] 3] ?_
      refine s3 ?_
      refine dP rfl (rp_arrC rfl rfl rfl ia_75_1 rfl) ?_
      refine s1 ?_
      refine dW rfl (oR (fun w hw => limits_any _ _ _ _ _ _ w)) (fun t58 _ => ?_)
      obtain ⟨bs, bo⟩ := t58
      dsimp only
      refine s3 ?_
      refine kJ [(1, _), (3, _), (10, _), (11, _), (48, _), (49, _), (58, _)] ?_
      refine J_rangeI (T := LmT) (Y := Int) (Ds := Ds) (p := 59) (fun t => t.n ≤ (limL a b).length ∧ t.S = accS 0 a ((limL a b).take t.n) (scK a b 0)) (fun t X => [cellB bs [.slice aA a.length ac] 74, cellB bo [.slice bA b.length bc] 74, cellB b1 [.slice aA a.length ac, .slice bA b.length bc] 75, cellB b3 [.map (some b16)] 78, cellB b10 [.int .i64 0] 3, cellB b11 [.slice aA a.length ac] 74, setB Tryz.prog 38 kN okN2 b16 (t.S), X]) (fun t y => (limL a b)[t.n]? = some y) (fun y => .int .i64 y) (fun t y X => [cellB bs [.slice aA a.length ac] 74, cellB bo [.slice bA b.length bc] 74, cellB b1 [.slice aA a.length ac, .slice bA b.length bc] 75, cellB b3 [.map (some b16)] 78, cellB b10 [.int .i64 0] 3, cellB b11 [.slice aA a.length ac] 74, setB Tryz.prog 38 kN okN2 b16 (t.S), X]) (fun t t' => t'.n = t.n + 1) (fun t => t.n = (limL a b).length) (fun t => t.n = 0) (fun y => [(3, .pointer (some ⟨b3, 0, none⟩)), (10, .pointer (some ⟨b10, 0, none⟩)), (11, .pointer (some ⟨b11, 0, none⟩)), (12, .int .i64 y)]) (limits1_any a b aA bA ac bc bs bo w (cellB b1 [.slice aA a.length ac, .slice bA b.length bc] 75) (cellB b3 [.map (some b16)] 78) (cellB b10 [.int .i64 0] 3) (cellB b11 [.slice aA a.length ac] 74) (fun S => setB Tryz.prog 38 kN okN2 b16 (S)) (fun t => t.S = accS 0 a ((limL a b).take t.n) (scK a b 0)) hA hB hkb) (⟨0, (scK a b 0)⟩) (⟨Nat.zero_le _, rfl⟩) (rfl) ?_ ?_ ?_
      ·rintro lp t y X ⟨ht1, ht2⟩ hy
       dsimp only at hy ⊢
       have hca := ca_len a y
       have hmu := mu_len a y
       have hSl : t.S.length ≤ 1700 := by
        rw [ht2]
        have z1 := accS_len 0 a ((limL a b).take t.n) (scK a b 0)
        have z2 := limL_len a b
        have z3 : ((limL a b).take t.n).length * a.length ≤ 34 * 16 := Nat.mul_le_mul (by rw [List.length_take]; omega) hla
        have z4 := hsl 0
        omega
       refine kJ [(3, _), (10, _), (11, _), (59, _)] ?_
       refine s3 ?_
       exact xE () trivial
      ·rintro lp t y X ⟨ht1, ht2⟩ hy
       dsimp only at hy ⊢
       have hca := ca_len a y
       have hmu := mu_len a y
       have hSl : t.S.length ≤ 1700 := by
        rw [ht2]
        have z1 := accS_len 0 a ((limL a b).take t.n) (scK a b 0)
        have z2 := limL_len a b
        have z3 : ((limL a b).take t.n).length * a.length ≤ 34 * 16 := Nat.mul_le_mul (by rw [List.length_take]; omega) hla
        have z4 := hsl 0
        omega
       refine s5 ?_
       refine aCB (fun w hw => up_any a y _ w (hA.up ERd (hw.un (r' := none) (d' := [])).bel) (by omega)) ?_
       refine s8 ?_
       refine kJ [(3, _), (10, _), (13, _), (14, _)] ?_
       refine s7 ?_
       obtain ⟨m, hm⟩ : ∃ m : Nat, max 1 (muN a y) = m := ⟨_, rfl⟩
       refine xL (T := Nat) (fun j => j ≤ caN a y + 1 - max 1 (muN a y)) (fun j => [(3, .pointer (some ⟨b3, 0, none⟩)), (10, .pointer (some ⟨b10, 0, none⟩)), (14, .int .i64 ((caN a y : Nat) : Int)), (15, .int .i64 ((m + j : Nat) : Int))]) (fun j => [cellB bs [.slice aA a.length ac] 74, cellB bo [.slice bA b.length bc] 74, cellB b1 [.slice aA a.length ac, .slice bA b.length bc] 75, cellB b3 [.map (some b16)] 78, cellB b10 [.int .i64 0] 3, cellB b11 [.slice aA a.length ac] 74, setB Tryz.prog 38 kN okN2 b16 (nsL 0 m j ++ t.S), X]) (fun j => caN a y + 1 - max 1 (muN a y) - j) 0 (Nat.zero_le _) ?_ (hl := ⟨rfl, rfl, rfl, (congrArg some (congrArg (Value.int .i64) (by omega))), trivial⟩)
       rintro j hj
       refine s6 ?_
       refine JL_dec (fun h70 => ?_) (fun h70 => ?_)
       ·refine s11 ?_
        refine aP (rp_buildC (fun us => [us.getD 0 undef, us.getD 1 undef]) rfl rfl (fun w => by kernel_rfl)) ?_
        refine aW0 (ow_putS KSC LBool (0, ((m + j : Nat) : Int)) Und.h rfl rfl rfl rfl rfl rfl rfl (by repeat constructor) ⟨by unfold W64; dsimp only; omega, by unfold W64; dsimp only; omega⟩ (by rw [List.length_append, nsL_len]; omega)) ?_
        refine s3 ?_
        refine kJ [(3, _), (10, _), (14, _), (15, _)] ?_
        refine s5 ?_
        have hs := nsL_s 0 m j
        exact xR (j + 1) (by omega) (by omega) (hl := ⟨rfl, rfl, rfl, (congrArg some (congrArg (Value.int .i64) (by omega))), trivial⟩) (hH := by (try dsimp only); rw [hs]; repeat constructor)
       ·refine s8 ?_
        have hyl := (List.getElem?_eq_some_iff.1 hy).1
        have hje : j = caN a y + 1 - max 1 (muN a y) := by omega
        have hfS : nsL 0 m j ++ t.S = accS 0 a ((limL a b).take (t.n + 1)) (scK a b 0) := by rw [accS_s hy, ← ht2, hje, ← hm]; rfl
        exact xE (⟨t.n + 1, nsL 0 m j ++ t.S⟩ : LmT) ⟨rfl, by dsimp only; omega, hfS⟩
      ·rintro D t ⟨ht1, ht2⟩ hfin
       have hS : t.S = scK a b 1 := by rw [ht2, hfin, List.take_length]; rfl
       rw [hS]
       refine s7 ?_
       refine JQ_round (B := fun q : Nat × List Nat => ⟨w, fun _ => False, none, q.2.map mark⟩) (1, D :: Ds) (by dsimp only; omega) (by dsimp only; omega) ?_ (by repeat constructor)
       exact ⟨rfl, rfl, rfl, rfl, trivial⟩
     ·refine s2 ?_
      refine aP (rp_run2 (f := fun u v => Instr.index 75 u v) (fun _ => rfl) rfl rfl (ix_75_1 _ _)) ?_
      refine aW oA (fun b10 hb10 => ?_)
      refine aW oA (fun b11 hb11 => ?_)
      refine s5 ?_
      refine xDx [0, 1, 2, 3, 4, 5] [0, 4] [1] [cellB b10 [.int .i64 1] 3] ?_
      refine s3 ?_
      refine dP rfl (rp_arrC rfl rfl rfl ia_75_0 rfl) ?_
      refine s1 ?_
      refine dW rfl (oR (fun w hw => limits_any _ _ _ _ _ _ w)) (fun t58 _ => ?_)
      obtain ⟨bs, bo⟩ := t58
      dsimp only
      refine s3 ?_
      refine kJ [(1, _), (3, _), (10, _), (11, _), (48, _), (49, _), (58, _)] ?_
      refine J_rangeI (T := LmT) (Y := Int) (Ds := Ds) (p := 59) (fun t => t.n ≤ (limL b a).length ∧ t.S = accS 1 b ((limL b a).take t.n) (scK a b 1)) (fun t X => [cellB bs [.slice bA b.length bc] 74, cellB bo [.slice aA a.length ac] 74, cellB b1 [.slice aA a.length ac, .slice bA b.length bc] 75, cellB b3 [.map (some b16)] 78, cellB b10 [.int .i64 1] 3, cellB b11 [.slice bA b.length bc] 74, setB Tryz.prog 38 kN okN2 b16 (t.S), X]) (fun t y => (limL b a)[t.n]? = some y) (fun y => .int .i64 y) (fun t y X => [cellB bs [.slice bA b.length bc] 74, cellB bo [.slice aA a.length ac] 74, cellB b1 [.slice aA a.length ac, .slice bA b.length bc] 75, cellB b3 [.map (some b16)] 78, cellB b10 [.int .i64 1] 3, cellB b11 [.slice bA b.length bc] 74, setB Tryz.prog 38 kN okN2 b16 (t.S), X]) (fun t t' => t'.n = t.n + 1) (fun t => t.n = (limL b a).length) (fun t => t.n = 0) (fun y => [(3, .pointer (some ⟨b3, 0, none⟩)), (10, .pointer (some ⟨b10, 0, none⟩)), (11, .pointer (some ⟨b11, 0, none⟩)), (12, .int .i64 y)]) (limits1_any b a bA aA bc ac bs bo w (cellB b1 [.slice aA a.length ac, .slice bA b.length bc] 75) (cellB b3 [.map (some b16)] 78) (cellB b10 [.int .i64 1] 3) (cellB b11 [.slice bA b.length bc] 74) (fun S => setB Tryz.prog 38 kN okN2 b16 (S)) (fun t => t.S = accS 1 b ((limL b a).take t.n) (scK a b 1)) hB hA hka) (⟨0, (scK a b 1)⟩) (⟨Nat.zero_le _, rfl⟩) (rfl) ?_ ?_ ?_
      ·rintro lp t y X ⟨ht1, ht2⟩ hy
       dsimp only at hy ⊢
       have hca := ca_len b y
       have hmu := mu_len b y
       have hSl : t.S.length ≤ 1700 := by
        rw [ht2]
        have z1 := accS_len 1 b ((limL b a).take t.n) (scK a b 1)
        have z2 := limL_len b a
        have z3 : ((limL b a).take t.n).length * b.length ≤ 34 * 16 := Nat.mul_le_mul (by rw [List.length_take]; omega) hlb
        have z4 := hsl 1
        omega
       refine kJ [(3, _), (10, _), (11, _), (59, _)] ?_
       refine s3 ?_
       exact xE () trivial
      ·rintro lp t y X ⟨ht1, ht2⟩ hy
       dsimp only at hy ⊢
       have hca := ca_len b y
       have hmu := mu_len b y
       have hSl : t.S.length ≤ 1700 := by
        rw [ht2]
        have z1 := accS_len 1 b ((limL b a).take t.n) (scK a b 1)
        have z2 := limL_len b a
        have z3 : ((limL b a).take t.n).length * b.length ≤ 34 * 16 := Nat.mul_le_mul (by rw [List.length_take]; omega) hlb
        have z4 := hsl 1
        omega
       refine s5 ?_
       refine aCB (fun w hw => up_any b y _ w (hB.up ERd (hw.un (r' := none) (d' := [])).bel) (by omega)) ?_
       refine s8 ?_
       refine kJ [(3, _), (10, _), (13, _), (14, _)] ?_
       refine s7 ?_
       obtain ⟨m, hm⟩ : ∃ m : Nat, max 1 (muN b y) = m := ⟨_, rfl⟩
       refine xL (T := Nat) (fun j => j ≤ caN b y + 1 - max 1 (muN b y)) (fun j => [(3, .pointer (some ⟨b3, 0, none⟩)), (10, .pointer (some ⟨b10, 0, none⟩)), (14, .int .i64 ((caN b y : Nat) : Int)), (15, .int .i64 ((m + j : Nat) : Int))]) (fun j => [cellB bs [.slice bA b.length bc] 74, cellB bo [.slice aA a.length ac] 74, cellB b1 [.slice aA a.length ac, .slice bA b.length bc] 75, cellB b3 [.map (some b16)] 78, cellB b10 [.int .i64 1] 3, cellB b11 [.slice bA b.length bc] 74, setB Tryz.prog 38 kN okN2 b16 (nsL 1 m j ++ t.S), X]) (fun j => caN b y + 1 - max 1 (muN b y) - j) 0 (Nat.zero_le _) ?_ (hl := ⟨rfl, rfl, rfl, (congrArg some (congrArg (Value.int .i64) (by omega))), trivial⟩)
       rintro j hj
       refine s6 ?_
       refine JL_dec (fun h70 => ?_) (fun h70 => ?_)
       ·refine s11 ?_
        refine aP (rp_buildC (fun us => [us.getD 0 undef, us.getD 1 undef]) rfl rfl (fun w => by kernel_rfl)) ?_
        refine aW0 (ow_putS KSC LBool (1, ((m + j : Nat) : Int)) Und.h rfl rfl rfl rfl rfl rfl rfl (by repeat constructor) ⟨by unfold W64; dsimp only; omega, by unfold W64; dsimp only; omega⟩ (by rw [List.length_append, nsL_len]; omega)) ?_
        refine s3 ?_
        refine kJ [(3, _), (10, _), (14, _), (15, _)] ?_
        refine s5 ?_
        have hs := nsL_s 1 m j
        exact xR (j + 1) (by omega) (by omega) (hl := ⟨rfl, rfl, rfl, (congrArg some (congrArg (Value.int .i64) (by omega))), trivial⟩) (hH := by (try dsimp only); rw [hs]; repeat constructor)
       ·refine s8 ?_
        have hyl := (List.getElem?_eq_some_iff.1 hy).1
        have hje : j = caN b y + 1 - max 1 (muN b y) := by omega
        have hfS : nsL 1 m j ++ t.S = accS 1 b ((limL b a).take (t.n + 1)) (scK a b 1) := by rw [accS_s hy, ← ht2, hje, ← hm]; rfl
        exact xE (⟨t.n + 1, nsL 1 m j ++ t.S⟩ : LmT) ⟨rfl, by dsimp only; omega, hfS⟩
      ·rintro D t ⟨ht1, ht2⟩ hfin
       have hS : t.S = scK a b 2 := by rw [ht2, hfin, List.take_length]; rfl
       rw [hS]
       refine s7 ?_
       refine JQ_round (B := fun q : Nat × List Nat => ⟨w, fun _ => False, none, q.2.map mark⟩) (2, D :: Ds) (by dsimp only; omega) (by dsimp only; omega) ?_ (by repeat constructor)
       exact ⟨rfl, rfl, rfl, rfl, trivial⟩
    ·refine s10 ?_
     refine kJ [(3, _)] ?_
     refine s6 ?_
     refine JR_marks (fun X => [setB Tryz.prog 38 kN okN2 b16 (scK a b i), X]) rfl (fun _ => rr_tmp rfl) ?_
     intro w' hw
     obtain rfl : i = 2 := by omega
     exact ⟨b16, trivial, rfl, (hw.un (r' := none) (d' := [])).pick (by repeat constructor)⟩
 ·refine s12 ?_
  refine JL_dec (fun h44 => ?_) (fun h44 => ?_)
  ·refine s4 ?_
   refine kJ [(1, _), (3, _)] ?_
   refine s2 ?_
   refine aP (rp_buildC (fun us => [us.getD 0 undef, .int .i64 0]) rfl rfl (fun w => by kernel_rfl)) ?_
   refine aW0 (ow_putS KSC LBool (-1, 0) Und.h rfl rfl rfl rfl rfl rfl rfl (by repeat constructor) ⟨by unfold W64; dsimp only; omega, by unfold W64; dsimp only; omega⟩ (by simp)) ?_
   refine s4 ?_
   have hbl : blB a b = true := by unfold blB; rw [h32, Bool.false_and, Bool.false_or]; exact decide_eq_true (by omega)
   have hk0 : scK a b 0 = [(-1, 0)] := by show (if blB a b = true then [((-1 : Int), (0 : Int))] else []) = _; rw [hbl]; rfl
   rw [← hk0]
   refine s6 ?_
   refine J_loopD (T := Nat × List Nat) (fun q => ⟨w, fun _ => False, none, q.2.map mark⟩) (r := none) (fun _ => rfl) (fun q => q.1 ≤ 2) (fun q => [(1, .pointer (some ⟨b1, 0, none⟩)), (3, .pointer (some ⟨b3, 0, none⟩)), (48, .agg #[.slice aA a.length ac, .slice bA b.length bc]), (49, .int .i64 (q.1 : Nat))]) (fun q => [cellB b1 [.slice aA a.length ac, .slice bA b.length bc] 75, cellB b3 [.map (some b16)] 78, setB Tryz.prog 38 kN okN2 b16 (scK a b q.1), defsB q.2]) (fun q => 2 - q.1) (0, []) (by decide) (by exact cov) (by repeat constructor) ?_
   rintro ⟨i, Ds⟩ hi
   dsimp only at hi ⊢
   refine s3 ?_
   refine JL_dec (fun h50 => ?_) (fun h50 => ?_)
   ·refine s9 ?_
    rcases (show i = 0 ∨ i = 1 by omega) with rfl | rfl
    ·refine s2 ?_
     refine aP (rp_run2 (f := fun u v => Instr.index 75 u v) (fun _ => rfl) rfl rfl (ix_75_0 _ _)) ?_
     refine aW oA (fun b10 hb10 => ?_)
     refine aW oA (fun b11 hb11 => ?_)
     refine s5 ?_
     refine xDx [0, 1, 2, 3, 4, 5] [0, 4] [1] [cellB b10 [.int .i64 0] 3] ?_
     refine s3 ?_
     refine dP rfl (rp_arrC rfl rfl rfl ia_75_1 rfl) ?_
     refine s1 ?_
     refine dW rfl (oR (fun w hw => limits_any _ _ _ _ _ _ w)) (fun t58 _ => ?_)
     obtain ⟨bs, bo⟩ := t58
     dsimp only
     refine s3 ?_
     refine kJ [(1, _), (3, _), (10, _), (11, _), (48, _), (49, _), (58, _)] ?_
     refine J_rangeI (T := LmT) (Y := Int) (Ds := Ds) (p := 59) (fun t => t.n ≤ (limL a b).length ∧ t.S = accS 0 a ((limL a b).take t.n) (scK a b 0)) (fun t X => [cellB bs [.slice aA a.length ac] 74, cellB bo [.slice bA b.length bc] 74, cellB b1 [.slice aA a.length ac, .slice bA b.length bc] 75, cellB b3 [.map (some b16)] 78, cellB b10 [.int .i64 0] 3, cellB b11 [.slice aA a.length ac] 74, setB Tryz.prog 38 kN okN2 b16 (t.S), X]) (fun t y => (limL a b)[t.n]? = some y) (fun y => .int .i64 y) (fun t y X => [cellB bs [.slice aA a.length ac] 74, cellB bo [.slice bA b.length bc] 74, cellB b1 [.slice aA a.length ac, .slice bA b.length bc] 75, cellB b3 [.map (some b16)] 78, cellB b10 [.int .i64 0] 3, cellB b11 [.slice aA a.length ac] 74, setB Tryz.prog 38 kN okN2 b16 (t.S), X]) (fun t t' => t'.n = t.n + 1) (fun t => t.n = (limL a b).length) (fun t => t.n = 0) (fun y => [(3, .pointer (some ⟨b3, 0, none⟩)), (10, .pointer (some ⟨b10, 0, none⟩)), (11, .pointer (some ⟨b11, 0, none⟩)), (12, .int .i64 y)]) (limits1_any a b aA bA ac bc bs bo w (cellB b1 [.slice aA a.length ac, .slice bA b.length bc] 75) (cellB b3 [.map (some b16)] 78) (cellB b10 [.int .i64 0] 3) (cellB b11 [.slice aA a.length ac] 74) (fun S => setB Tryz.prog 38 kN okN2 b16 (S)) (fun t => t.S = accS 0 a ((limL a b).take t.n) (scK a b 0)) hA hB hkb) (⟨0, (scK a b 0)⟩) (⟨Nat.zero_le _, rfl⟩) (rfl) ?_ ?_ ?_
     ·rintro lp t y X ⟨ht1, ht2⟩ hy
      dsimp only at hy ⊢
      have hca := ca_len a y
      have hmu := mu_len a y
      have hSl : t.S.length ≤ 1700 := by
       rw [ht2]
       have z1 := accS_len 0 a ((limL a b).take t.n) (scK a b 0)
       have z2 := limL_len a b
       have z3 : ((limL a b).take t.n).length * a.length ≤ 34 * 16 := Nat.mul_le_mul (by rw [List.length_take]; omega) hla
       have z4 := hsl 0
       omega
      refine kJ [(3, _), (10, _), (11, _), (59, _)] ?_
      refine s3 ?_
      exact xE () trivial
     ·rintro lp t y X ⟨ht1, ht2⟩ hy
      dsimp only at hy ⊢
      have hca := ca_len a y
      have hmu := mu_len a y
      have hSl : t.S.length ≤ 1700 := by
       rw [ht2]
       have z1 := accS_len 0 a ((limL a b).take t.n) (scK a b 0)
       have z2 := limL_len a b
       have z3 : ((limL a b).take t.n).length * a.length ≤ 34 * 16 := Nat.mul_le_mul (by rw [List.length_take]; omega) hla
       have z4 := hsl 0
       omega
      refine s5 ?_
      refine aCB (fun w hw => up_any a y _ w (hA.up ERd (hw.un (r' := none) (d' := [])).bel) (by omega)) ?_
      refine s8 ?_
      refine kJ [(3, _), (10, _), (13, _), (14, _)] ?_
      refine s7 ?_
      obtain ⟨m, hm⟩ : ∃ m : Nat, max 1 (muN a y) = m := ⟨_, rfl⟩
      refine xL (T := Nat) (fun j => j ≤ caN a y + 1 - max 1 (muN a y)) (fun j => [(3, .pointer (some ⟨b3, 0, none⟩)), (10, .pointer (some ⟨b10, 0, none⟩)), (14, .int .i64 ((caN a y : Nat) : Int)), (15, .int .i64 ((m + j : Nat) : Int))]) (fun j => [cellB bs [.slice aA a.length ac] 74, cellB bo [.slice bA b.length bc] 74, cellB b1 [.slice aA a.length ac, .slice bA b.length bc] 75, cellB b3 [.map (some b16)] 78, cellB b10 [.int .i64 0] 3, cellB b11 [.slice aA a.length ac] 74, setB Tryz.prog 38 kN okN2 b16 (nsL 0 m j ++ t.S), X]) (fun j => caN a y + 1 - max 1 (muN a y) - j) 0 (Nat.zero_le _) ?_ (hl := ⟨rfl, rfl, rfl, (congrArg some (congrArg (Value.int .i64) (by omega))), trivial⟩)
      rintro j hj
      refine s6 ?_
      refine JL_dec (fun h70 => ?_) (fun h70 => ?_)
      ·refine s11 ?_
       refine aP (rp_buildC (fun us => [us.getD 0 undef, us.getD 1 undef]) rfl rfl (fun w => by kernel_rfl)) ?_
       refine aW0 (ow_putS KSC LBool (0, ((m + j : Nat) : Int)) Und.h rfl rfl rfl rfl rfl rfl rfl (by repeat constructor) ⟨by unfold W64; dsimp only; omega, by unfold W64; dsimp only; omega⟩ (by rw [List.length_append, nsL_len]; omega)) ?_
       refine s3 ?_
       refine kJ [(3, _), (10, _), (14, _), (15, _)] ?_
       refine s5 ?_
       have hs := nsL_s 0 m j
       exact xR (j + 1) (by omega) (by omega) (hl := ⟨rfl, rfl, rfl, (congrArg some (congrArg (Value.int .i64) (by omega))), trivial⟩) (hH := by (try dsimp only); rw [hs]; repeat constructor)
      ·refine s8 ?_
       have hyl := (List.getElem?_eq_some_iff.1 hy).1
       have hje : j = caN a y + 1 - max 1 (muN a y) := by omega
       have hfS : nsL 0 m j ++ t.S = accS 0 a ((limL a b).take (t.n + 1)) (scK a b 0) := by rw [accS_s hy, ← ht2, hje, ← hm]; rfl
       exact xE (⟨t.n + 1, nsL 0 m j ++ t.S⟩ : LmT) ⟨rfl, by dsimp only; omega, hfS⟩
     ·rintro D t ⟨ht1, ht2⟩ hfin
      have hS : t.S = scK a b 1 := by rw [ht2, hfin, List.take_length]; rfl
      rw [hS]
      refine s7 ?_
      refine JQ_round (B := fun q : Nat × List Nat => ⟨w, fun _ => False, none, q.2.map mark⟩) (1, D :: Ds) (by dsimp only; omega) (by dsimp only; omega) ?_ (by repeat constructor)
      exact ⟨rfl, rfl, rfl, rfl, trivial⟩
    ·refine s2 ?_
     refine aP (rp_run2 (f := fun u v => Instr.index 75 u v) (fun _ => rfl) rfl rfl (ix_75_1 _ _)) ?_
     refine aW oA (fun b10 hb10 => ?_)
     refine aW oA (fun b11 hb11 => ?_)
     refine s5 ?_
     refine xDx [0, 1, 2, 3, 4, 5] [0, 4] [1] [cellB b10 [.int .i64 1] 3] ?_
     refine s3 ?_
     refine dP rfl (rp_arrC rfl rfl rfl ia_75_0 rfl) ?_
     refine s1 ?_
     refine dW rfl (oR (fun w hw => limits_any _ _ _ _ _ _ w)) (fun t58 _ => ?_)
     obtain ⟨bs, bo⟩ := t58
     dsimp only
     refine s3 ?_
     refine kJ [(1, _), (3, _), (10, _), (11, _), (48, _), (49, _), (58, _)] ?_
     refine J_rangeI (T := LmT) (Y := Int) (Ds := Ds) (p := 59) (fun t => t.n ≤ (limL b a).length ∧ t.S = accS 1 b ((limL b a).take t.n) (scK a b 1)) (fun t X => [cellB bs [.slice bA b.length bc] 74, cellB bo [.slice aA a.length ac] 74, cellB b1 [.slice aA a.length ac, .slice bA b.length bc] 75, cellB b3 [.map (some b16)] 78, cellB b10 [.int .i64 1] 3, cellB b11 [.slice bA b.length bc] 74, setB Tryz.prog 38 kN okN2 b16 (t.S), X]) (fun t y => (limL b a)[t.n]? = some y) (fun y => .int .i64 y) (fun t y X => [cellB bs [.slice bA b.length bc] 74, cellB bo [.slice aA a.length ac] 74, cellB b1 [.slice aA a.length ac, .slice bA b.length bc] 75, cellB b3 [.map (some b16)] 78, cellB b10 [.int .i64 1] 3, cellB b11 [.slice bA b.length bc] 74, setB Tryz.prog 38 kN okN2 b16 (t.S), X]) (fun t t' => t'.n = t.n + 1) (fun t => t.n = (limL b a).length) (fun t => t.n = 0) (fun y => [(3, .pointer (some ⟨b3, 0, none⟩)), (10, .pointer (some ⟨b10, 0, none⟩)), (11, .pointer (some ⟨b11, 0, none⟩)), (12, .int .i64 y)]) (limits1_any b a bA aA bc ac bs bo w (cellB b1 [.slice aA a.length ac, .slice bA b.length bc] 75) (cellB b3 [.map (some b16)] 78) (cellB b10 [.int .i64 1] 3) (cellB b11 [.slice bA b.length bc] 74) (fun S => setB Tryz.prog 38 kN okN2 b16 (S)) (fun t => t.S = accS 1 b ((limL b a).take t.n) (scK a b 1)) hB hA hka) (⟨0, (scK a b 1)⟩) (⟨Nat.zero_le _, rfl⟩) (rfl) ?_ ?_ ?_
     ·rintro lp t y X ⟨ht1, ht2⟩ hy
      dsimp only at hy ⊢
      have hca := ca_len b y
      have hmu := mu_len b y
      have hSl : t.S.length ≤ 1700 := by
       rw [ht2]
       have z1 := accS_len 1 b ((limL b a).take t.n) (scK a b 1)
       have z2 := limL_len b a
       have z3 : ((limL b a).take t.n).length * b.length ≤ 34 * 16 := Nat.mul_le_mul (by rw [List.length_take]; omega) hlb
       have z4 := hsl 1
       omega
      refine kJ [(3, _), (10, _), (11, _), (59, _)] ?_
      refine s3 ?_
      exact xE () trivial
     ·rintro lp t y X ⟨ht1, ht2⟩ hy
      dsimp only at hy ⊢
      have hca := ca_len b y
      have hmu := mu_len b y
      have hSl : t.S.length ≤ 1700 := by
       rw [ht2]
       have z1 := accS_len 1 b ((limL b a).take t.n) (scK a b 1)
       have z2 := limL_len b a
       have z3 : ((limL b a).take t.n).length * b.length ≤ 34 * 16 := Nat.mul_le_mul (by rw [List.length_take]; omega) hlb
       have z4 := hsl 1
       omega
      refine s5 ?_
      refine aCB (fun w hw => up_any b y _ w (hB.up ERd (hw.un (r' := none) (d' := [])).bel) (by omega)) ?_
      refine s8 ?_
      refine kJ [(3, _), (10, _), (13, _), (14, _)] ?_
      refine s7 ?_
      obtain ⟨m, hm⟩ : ∃ m : Nat, max 1 (muN b y) = m := ⟨_, rfl⟩
      refine xL (T := Nat) (fun j => j ≤ caN b y + 1 - max 1 (muN b y)) (fun j => [(3, .pointer (some ⟨b3, 0, none⟩)), (10, .pointer (some ⟨b10, 0, none⟩)), (14, .int .i64 ((caN b y : Nat) : Int)), (15, .int .i64 ((m + j : Nat) : Int))]) (fun j => [cellB bs [.slice bA b.length bc] 74, cellB bo [.slice aA a.length ac] 74, cellB b1 [.slice aA a.length ac, .slice bA b.length bc] 75, cellB b3 [.map (some b16)] 78, cellB b10 [.int .i64 1] 3, cellB b11 [.slice bA b.length bc] 74, setB Tryz.prog 38 kN okN2 b16 (nsL 1 m j ++ t.S), X]) (fun j => caN b y + 1 - max 1 (muN b y) - j) 0 (Nat.zero_le _) ?_ (hl := ⟨rfl, rfl, rfl, (congrArg some (congrArg (Value.int .i64) (by omega))), trivial⟩)
      rintro j hj
      refine s6 ?_
      refine JL_dec (fun h70 => ?_) (fun h70 => ?_)
      ·refine s11 ?_
       refine aP (rp_buildC (fun us => [us.getD 0 undef, us.getD 1 undef]) rfl rfl (fun w => by kernel_rfl)) ?_
       refine aW0 (ow_putS KSC LBool (1, ((m + j : Nat) : Int)) Und.h rfl rfl rfl rfl rfl rfl rfl (by repeat constructor) ⟨by unfold W64; dsimp only; omega, by unfold W64; dsimp only; omega⟩ (by rw [List.length_append, nsL_len]; omega)) ?_
       refine s3 ?_
       refine kJ [(3, _), (10, _), (14, _), (15, _)] ?_
       refine s5 ?_
       have hs := nsL_s 1 m j
       exact xR (j + 1) (by omega) (by omega) (hl := ⟨rfl, rfl, rfl, (congrArg some (congrArg (Value.int .i64) (by omega))), trivial⟩) (hH := by (try dsimp only); rw [hs]; repeat constructor)
      ·refine s8 ?_
       have hyl := (List.getElem?_eq_some_iff.1 hy).1
       have hje : j = caN b y + 1 - max 1 (muN b y) := by omega
       have hfS : nsL 1 m j ++ t.S = accS 1 b ((limL b a).take (t.n + 1)) (scK a b 1) := by rw [accS_s hy, ← ht2, hje, ← hm]; rfl
       exact xE (⟨t.n + 1, nsL 1 m j ++ t.S⟩ : LmT) ⟨rfl, by dsimp only; omega, hfS⟩
     ·rintro D t ⟨ht1, ht2⟩ hfin
      have hS : t.S = scK a b 2 := by rw [ht2, hfin, List.take_length]; rfl
      rw [hS]
      refine s7 ?_
      refine JQ_round (B := fun q : Nat × List Nat => ⟨w, fun _ => False, none, q.2.map mark⟩) (2, D :: Ds) (by dsimp only; omega) (by dsimp only; omega) ?_ (by repeat constructor)
      exact ⟨rfl, rfl, rfl, rfl, trivial⟩
   ·refine s10 ?_
    refine kJ [(3, _)] ?_
    refine s6 ?_
    refine JR_marks (fun X => [setB Tryz.prog 38 kN okN2 b16 (scK a b i), X]) rfl (fun _ => rr_tmp rfl) ?_
    intro w' hw
    obtain rfl : i = 2 := by omega
    exact ⟨b16, trivial, rfl, (hw.un (r' := none) (d' := [])).pick (by repeat constructor)⟩
  ·refine s8 ?_
   have hbl : blB a b = false := by unfold blB; rw [h32, Bool.false_and, Bool.false_or]; exact decide_eq_false (by omega)
   have hk0 : scK a b 0 = [] := by show (if blB a b = true then [((-1 : Int), (0 : Int))] else []) = _; rw [hbl]; rfl
   rw [← hk0]
   refine kJ [(1, _), (3, _)] ?_
   refine s6 ?_
   refine J_loopD (T := Nat × List Nat) (fun q => ⟨w, fun _ => False, none, q.2.map mark⟩) (r := none) (fun _ => rfl) (fun q => q.1 ≤ 2) (fun q => [(1, .pointer (some ⟨b1, 0, none⟩)), (3, .pointer (some ⟨b3, 0, none⟩)), (48, .agg #[.slice aA a.length ac, .slice bA b.length bc]), (49, .int .i64 (q.1 : Nat))]) (fun q => [cellB b1 [.slice aA a.length ac, .slice bA b.length bc] 75, cellB b3 [.map (some b16)] 78, setB Tryz.prog 38 kN okN2 b16 (scK a b q.1), defsB q.2]) (fun q => 2 - q.1) (0, []) (by decide) (by exact cov) (by repeat constructor) ?_
   rintro ⟨i, Ds⟩ hi
   dsimp only at hi ⊢
   refine s3 ?_
   refine JL_dec (fun h50 => ?_) (fun h50 => ?_)
   ·refine s9 ?_
    rcases (show i = 0 ∨ i = 1 by omega) with rfl | rfl
    ·refine s2 ?_
     refine aP (rp_run2 (f := fun u v => Instr.index 75 u v) (fun _ => rfl) rfl rfl (ix_75_0 _ _)) ?_
     refine aW oA (fun b10 hb10 => ?_)
     refine aW oA (fun b11 hb11 => ?_)
     refine s5 ?_
     refine xDx [0, 1, 2, 3, 4, 5] [0, 4] [1] [cellB b10 [.int .i64 0] 3] ?_
     refine s3 ?_
     refine dP rfl (rp_arrC rfl rfl rfl ia_75_1 rfl) ?_
     refine s1 ?_
     refine dW rfl (oR (fun w hw => limits_any _ _ _ _ _ _ w)) (fun t58 _ => ?_)
     obtain ⟨bs, bo⟩ := t58
     dsimp only
     refine s3 ?_
     refine kJ [(1, _), (3, _), (10, _), (11, _), (48, _), (49, _), (58, _)] ?_
     refine J_rangeI (T := LmT) (Y := Int) (Ds := Ds) (p := 59) (fun t => t.n ≤ (limL a b).length ∧ t.S = accS 0 a ((limL a b).take t.n) (scK a b 0)) (fun t X => [cellB bs [.slice aA a.length ac] 74, cellB bo [.slice bA b.length bc] 74, cellB b1 [.slice aA a.length ac, .slice bA b.length bc] 75, cellB b3 [.map (some b16)] 78, cellB b10 [.int .i64 0] 3, cellB b11 [.slice aA a.length ac] 74, setB Tryz.prog 38 kN okN2 b16 (t.S), X]) (fun t y => (limL a b)[t.n]? = some y) (fun y => .int .i64 y) (fun t y X => [cellB bs [.slice aA a.length ac] 74, cellB bo [.slice bA b.length bc] 74, cellB b1 [.slice aA a.length ac, .slice bA b.length bc] 75, cellB b3 [.map (some b16)] 78, cellB b10 [.int .i64 0] 3, cellB b11 [.slice aA a.length ac] 74, setB Tryz.prog 38 kN okN2 b16 (t.S), X]) (fun t t' => t'.n = t.n + 1) (fun t => t.n = (limL a b).length) (fun t => t.n = 0) (fun y => [(3, .pointer (some ⟨b3, 0, none⟩)), (10, .pointer (some ⟨b10, 0, none⟩)), (11, .pointer (some ⟨b11, 0, none⟩)), (12, .int .i64 y)]) (limits1_any a b aA bA ac bc bs bo w (cellB b1 [.slice aA a.length ac, .slice bA b.length bc] 75) (cellB b3 [.map (some b16)] 78) (cellB b10 [.int .i64 0] 3) (cellB b11 [.slice aA a.length ac] 74) (fun S => setB Tryz.prog 38 kN okN2 b16 (S)) (fun t => t.S = accS 0 a ((limL a b).take t.n) (scK a b 0)) hA hB hkb) (⟨0, (scK a b 0)⟩) (⟨Nat.zero_le _, rfl⟩) (rfl) ?_ ?_ ?_
     ·rintro lp t y X ⟨ht1, ht2⟩ hy
      dsimp only at hy ⊢
      have hca := ca_len a y
      have hmu := mu_len a y
      have hSl : t.S.length ≤ 1700 := by
       rw [ht2]
       have z1 := accS_len 0 a ((limL a b).take t.n) (scK a b 0)
       have z2 := limL_len a b
       have z3 : ((limL a b).take t.n).length * a.length ≤ 34 * 16 := Nat.mul_le_mul (by rw [List.length_take]; omega) hla
       have z4 := hsl 0
       omega
      refine kJ [(3, _), (10, _), (11, _), (59, _)] ?_
      refine s3 ?_
      exact xE () trivial
     ·rintro lp t y X ⟨ht1, ht2⟩ hy
      dsimp only at hy ⊢
      have hca := ca_len a y
      have hmu := mu_len a y
      have hSl : t.S.length ≤ 1700 := by
       rw [ht2]
       have z1 := accS_len 0 a ((limL a b).take t.n) (scK a b 0)
       have z2 := limL_len a b
       have z3 : ((limL a b).take t.n).length * a.length ≤ 34 * 16 := Nat.mul_le_mul (by rw [List.length_take]; omega) hla
       have z4 := hsl 0
       omega
      refine s5 ?_
      refine aCB (fun w hw => up_any a y _ w (hA.up ERd (hw.un (r' := none) (d' := [])).bel) (by omega)) ?_
      refine s8 ?_
      refine kJ [(3, _), (10, _), (13, _), (14, _)] ?_
      refine s7 ?_
      obtain ⟨m, hm⟩ : ∃ m : Nat, max 1 (muN a y) = m := ⟨_, rfl⟩
      refine xL (T := Nat) (fun j => j ≤ caN a y + 1 - max 1 (muN a y)) (fun j => [(3, .pointer (some ⟨b3, 0, none⟩)), (10, .pointer (some ⟨b10, 0, none⟩)), (14, .int .i64 ((caN a y : Nat) : Int)), (15, .int .i64 ((m + j : Nat) : Int))]) (fun j => [cellB bs [.slice aA a.length ac] 74, cellB bo [.slice bA b.length bc] 74, cellB b1 [.slice aA a.length ac, .slice bA b.length bc] 75, cellB b3 [.map (some b16)] 78, cellB b10 [.int .i64 0] 3, cellB b11 [.slice aA a.length ac] 74, setB Tryz.prog 38 kN okN2 b16 (nsL 0 m j ++ t.S), X]) (fun j => caN a y + 1 - max 1 (muN a y) - j) 0 (Nat.zero_le _) ?_ (hl := ⟨rfl, rfl, rfl, (congrArg some (congrArg (Value.int .i64) (by omega))), trivial⟩)
      rintro j hj
      refine s6 ?_
      refine JL_dec (fun h70 => ?_) (fun h70 => ?_)
      ·refine s11 ?_
       refine aP (rp_buildC (fun us => [us.getD 0 undef, us.getD 1 undef]) rfl rfl (fun w => by kernel_rfl)) ?_
       refine aW0 (ow_putS KSC LBool (0, ((m + j : Nat) : Int)) Und.h rfl rfl rfl rfl rfl rfl rfl (by repeat constructor) ⟨by unfold W64; dsimp only; omega, by unfold W64; dsimp only; omega⟩ (by rw [List.length_append, nsL_len]; omega)) ?_
       refine s3 ?_
       refine kJ [(3, _), (10, _), (14, _), (15, _)] ?_
       refine s5 ?_
       have hs := nsL_s 0 m j
       exact xR (j + 1) (by omega) (by omega) (hl := ⟨rfl, rfl, rfl, (congrArg some (congrArg (Value.int .i64) (by omega))), trivial⟩) (hH := by (try dsimp only); rw [hs]; repeat constructor)
      ·refine s8 ?_
       have hyl := (List.getElem?_eq_some_iff.1 hy).1
       have hje : j = caN a y + 1 - max 1 (muN a y) := by omega
       have hfS : nsL 0 m j ++ t.S = accS 0 a ((limL a b).take (t.n + 1)) (scK a b 0) := by rw [accS_s hy, ← ht2, hje, ← hm]; rfl
       exact xE (⟨t.n + 1, nsL 0 m j ++ t.S⟩ : LmT) ⟨rfl, by dsimp only; omega, hfS⟩
     ·rintro D t ⟨ht1, ht2⟩ hfin
      have hS : t.S = scK a b 1 := by rw [ht2, hfin, List.take_length]; rfl
      rw [hS]
      refine s7 ?_
      refine JQ_round (B := fun q : Nat × List Nat => ⟨w, fun _ => False, none, q.2.map mark⟩) (1, D :: Ds) (by dsimp only; omega) (by dsimp only; omega) ?_ (by repeat constructor)
      exact ⟨rfl, rfl, rfl, rfl, trivial⟩
    ·refine s2 ?_
     refine aP (rp_run2 (f := fun u v => Instr.index 75 u v) (fun _ => rfl) rfl rfl (ix_75_1 _ _)) ?_
     refine aW oA (fun b10 hb10 => ?_)
     refine aW oA (fun b11 hb11 => ?_)
     refine s5 ?_
     refine xDx [0, 1, 2, 3, 4, 5] [0, 4] [1] [cellB b10 [.int .i64 1] 3] ?_
     refine s3 ?_
     refine dP rfl (rp_arrC rfl rfl rfl ia_75_0 rfl) ?_
     refine s1 ?_
     refine dW rfl (oR (fun w hw => limits_any _ _ _ _ _ _ w)) (fun t58 _ => ?_)
     obtain ⟨bs, bo⟩ := t58
     dsimp only
     refine s3 ?_
     refine kJ [(1, _), (3, _), (10, _), (11, _), (48, _), (49, _), (58, _)] ?_
     refine J_rangeI (T := LmT) (Y := Int) (Ds := Ds) (p := 59) (fun t => t.n ≤ (limL b a).length ∧ t.S = accS 1 b ((limL b a).take t.n) (scK a b 1)) (fun t X => [cellB bs [.slice bA b.length bc] 74, cellB bo [.slice aA a.length ac] 74, cellB b1 [.slice aA a.length ac, .slice bA b.length bc] 75, cellB b3 [.map (some b16)] 78, cellB b10 [.int .i64 1] 3, cellB b11 [.slice bA b.length bc] 74, setB Tryz.prog 38 kN okN2 b16 (t.S), X]) (fun t y => (limL b a)[t.n]? = some y) (fun y => .int .i64 y) (fun t y X => [cellB bs [.slice bA b.length bc] 74, cellB bo [.slice aA a.length ac] 74, cellB b1 [.slice aA a.length ac, .slice bA b.length bc] 75, cellB b3 [.map (some b16)] 78, cellB b10 [.int .i64 1] 3, cellB b11 [.slice bA b.length bc] 74, setB Tryz.prog 38 kN okN2 b16 (t.S), X]) (fun t t' => t'.n = t.n + 1) (fun t => t.n = (limL b a).length) (fun t => t.n = 0) (fun y => [(3, .pointer (some ⟨b3, 0, none⟩)), (10, .pointer (some ⟨b10, 0, none⟩)), (11, .pointer (some ⟨b11, 0, none⟩)), (12, .int .i64 y)]) (limits1_any b a bA aA bc ac bs bo w (cellB b1 [.slice aA a.length ac, .slice bA b.length bc] 75) (cellB b3 [.map (some b16)] 78) (cellB b10 [.int .i64 1] 3) (cellB b11 [.slice bA b.length bc] 74) (fun S => setB Tryz.prog 38 kN okN2 b16 (S)) (fun t => t.S = accS 1 b ((limL b a).take t.n) (scK a b 1)) hB hA hka) (⟨0, (scK a b 1)⟩) (⟨Nat.zero_le _, rfl⟩) (rfl) ?_ ?_ ?_
     ·rintro lp t y X ⟨ht1, ht2⟩ hy
      dsimp only at hy ⊢
      have hca := ca_len b y
      have hmu := mu_len b y
      have hSl : t.S.length ≤ 1700 := by
       rw [ht2]
       have z1 := accS_len 1 b ((limL b a).take t.n) (scK a b 1)
       have z2 := limL_len b a
       have z3 : ((limL b a).take t.n).length * b.length ≤ 34 * 16 := Nat.mul_le_mul (by rw [List.length_take]; omega) hlb
       have z4 := hsl 1
       omega
      refine kJ [(3, _), (10, _), (11, _), (59, _)] ?_
      refine s3 ?_
      exact xE () trivial
     ·rintro lp t y X ⟨ht1, ht2⟩ hy
      dsimp only at hy ⊢
      have hca := ca_len b y
      have hmu := mu_len b y
      have hSl : t.S.length ≤ 1700 := by
       rw [ht2]
       have z1 := accS_len 1 b ((limL b a).take t.n) (scK a b 1)
       have z2 := limL_len b a
       have z3 : ((limL b a).take t.n).length * b.length ≤ 34 * 16 := Nat.mul_le_mul (by rw [List.length_take]; omega) hlb
       have z4 := hsl 1
       omega
      refine s5 ?_
      refine aCB (fun w hw => up_any b y _ w (hB.up ERd (hw.un (r' := none) (d' := [])).bel) (by omega)) ?_
      refine s8 ?_
      refine kJ [(3, _), (10, _), (13, _), (14, _)] ?_
      refine s7 ?_
      obtain ⟨m, hm⟩ : ∃ m : Nat, max 1 (muN b y) = m := ⟨_, rfl⟩
      refine xL (T := Nat) (fun j => j ≤ caN b y + 1 - max 1 (muN b y)) (fun j => [(3, .pointer (some ⟨b3, 0, none⟩)), (10, .pointer (some ⟨b10, 0, none⟩)), (14, .int .i64 ((caN b y : Nat) : Int)), (15, .int .i64 ((m + j : Nat) : Int))]) (fun j => [cellB bs [.slice bA b.length bc] 74, cellB bo [.slice aA a.length ac] 74, cellB b1 [.slice aA a.length ac, .slice bA b.length bc] 75, cellB b3 [.map (some b16)] 78, cellB b10 [.int .i64 1] 3, cellB b11 [.slice bA b.length bc] 74, setB Tryz.prog 38 kN okN2 b16 (nsL 1 m j ++ t.S), X]) (fun j => caN b y + 1 - max 1 (muN b y) - j) 0 (Nat.zero_le _) ?_ (hl := ⟨rfl, rfl, rfl, (congrArg some (congrArg (Value.int .i64) (by omega))), trivial⟩)
      rintro j hj
      refine s6 ?_
      refine JL_dec (fun h70 => ?_) (fun h70 => ?_)
      ·refine s11 ?_
       refine aP (rp_buildC (fun us => [us.getD 0 undef, us.getD 1 undef]) rfl rfl (fun w => by kernel_rfl)) ?_
       refine aW0 (ow_putS KSC LBool (1, ((m + j : Nat) : Int)) Und.h rfl rfl rfl rfl rfl rfl rfl (by repeat constructor) ⟨by unfold W64; dsimp only; omega, by unfold W64; dsimp only; omega⟩ (by rw [List.length_append, nsL_len]; omega)) ?_
       refine s3 ?_
       refine kJ [(3, _), (10, _), (14, _), (15, _)] ?_
       refine s5 ?_
       have hs := nsL_s 1 m j
       exact xR (j + 1) (by omega) (by omega) (hl := ⟨rfl, rfl, rfl, (congrArg some (congrArg (Value.int .i64) (by omega))), trivial⟩) (hH := by (try dsimp only); rw [hs]; repeat constructor)
      ·refine s8 ?_
       have hyl := (List.getElem?_eq_some_iff.1 hy).1
       have hje : j = caN b y + 1 - max 1 (muN b y) := by omega
       have hfS : nsL 1 m j ++ t.S = accS 1 b ((limL b a).take (t.n + 1)) (scK a b 1) := by rw [accS_s hy, ← ht2, hje, ← hm]; rfl
       exact xE (⟨t.n + 1, nsL 1 m j ++ t.S⟩ : LmT) ⟨rfl, by dsimp only; omega, hfS⟩
     ·rintro D t ⟨ht1, ht2⟩ hfin
      have hS : t.S = scK a b 2 := by rw [ht2, hfin, List.take_length]; rfl
      rw [hS]
      refine s7 ?_
      refine JQ_round (B := fun q : Nat × List Nat => ⟨w, fun _ => False, none, q.2.map mark⟩) (2, D :: Ds) (by dsimp only; omega) (by dsimp only; omega) ?_ (by repeat constructor)
      exact ⟨rfl, rfl, rfl, rfl, trivial⟩
   ·refine s10 ?_
    refine kJ [(3, _)] ?_
    refine s6 ?_
    refine JR_marks (fun X => [setB Tryz.prog 38 kN okN2 b16 (scK a b i), X]) rfl (fun _ => rr_tmp rfl) ?_
    intro w' hw
    obtain rfl : i = 2 := by omega
    exact ⟨b16, trivial, rfl, (hw.un (r' := none) (d' := [])).pick (by repeat constructor)⟩
end Go.Proofs.YtmcpnoailbmkkaaGreat
/-
  DERIVED: THE SHELF's CONTRACTS AT THIS DUMP, IN PLAIN WORDS (tools/lay-plain.mjs out of 'YtmcpnoailbmkkaaGreatShc.lean', which tools/lay-shelf.mjs wrote): THE SAME DECLARATIONS UNDER THE SAME NAMES: 'import', 'namespace', 'open', 'def', 'theorem' AND NOTHING ELSE: no command of the shelf's: FOR A HAND-IN. Each laying: the table of numbers ('.._ren') and one theorem, a field a fact of the dump's own or the kernel's comparison; each contract: ONE APPLICATION.
-/
namespace Go.Proofs
open Go.Shelf
def Tryz.sortSc_ren : Go.Shelf.Ren := ⟨fun | 6 => 29 | 15 => 61 | 14 => 60 | 28 => 100 | 29 => 101 | 20 => 92 | 21 => 93 | 22 => 94 | 23 => 95 | 24 => 96 | 25 => 97 | 26 => 98 | 27 => 99 | 46 => 119 | 47 => 120 | 48 => 121 | 49 => 122 | 50 => 123 | 57 => 128 | n => n, fun | 22 => 34 | 24 => 38 | 25 => 81 | 3 => 3 | 39 => 121 | 0 => 0 | 53 => 161 | 55 => 92 | 4 => 4 | 46 => 154 | 45 => 153 | 50 => 158 | 5 => 5 | 9 => 9 | 66 => 175 | 70 => 178 | 76 => 184 | 77 => 70 | n => n, fun | n => n⟩
theorem Tryz.sortSc : Go.Proofs.SlLaysF0.n6 Tryz.prog Tryz.sortSc_ren := {
  mixed := by kernel_rfl
  f6 := ⟨Tryz.f29.name, by decide, Tryz.func29.trans (congrArg some (by kernel_rfl))⟩
  f14 := ⟨Tryz.f60.name, by decide, Tryz.func60.trans (congrArg some (by kernel_rfl))⟩
  f15 := Tryz.func61.trans (congrArg some (by kernel_rfl))
  f20 := ⟨Tryz.f92.name, by decide, Tryz.func92.trans (congrArg some (by kernel_rfl))⟩
  f21 := ⟨Tryz.f93.name, by decide, Tryz.func93.trans (congrArg some (by kernel_rfl))⟩
  f22 := ⟨Tryz.f94.name, by decide, Tryz.func94.trans (congrArg some (by kernel_rfl))⟩
  f23 := ⟨Tryz.f95.name, by decide, Tryz.func95.trans (congrArg some (by kernel_rfl))⟩
  f24 := ⟨Tryz.f96.name, by decide, Tryz.func96.trans (congrArg some (by kernel_rfl))⟩
  f25 := ⟨Tryz.f97.name, by decide, Tryz.func97.trans (congrArg some (by kernel_rfl))⟩
  f26 := ⟨Tryz.f98.name, by decide, Tryz.func98.trans (congrArg some (by kernel_rfl))⟩
  f27 := ⟨Tryz.f99.name, by decide, Tryz.func99.trans (congrArg some (by kernel_rfl))⟩
  f28 := Tryz.func100.trans (congrArg some (by kernel_rfl))
  f29 := Tryz.func101.trans (congrArg some (by kernel_rfl))
  f46 := ⟨Tryz.f119.name, by decide, Tryz.func119.trans (congrArg some (by kernel_rfl))⟩
  f47 := Tryz.func120.trans (congrArg some (by kernel_rfl))
  f48 := Tryz.func121.trans (congrArg some (by kernel_rfl))
  f49 := ⟨Tryz.f122.name, by decide, Tryz.func122.trans (congrArg some (by kernel_rfl))⟩
  f50 := ⟨Tryz.f123.name, by decide, Tryz.func123.trans (congrArg some (by kernel_rfl))⟩
  f57 := ⟨Tryz.f128.name, by decide, Tryz.func128.trans (congrArg some (by kernel_rfl))⟩
  t0 := Tryz.underlying0
  a0 := Tryz.isAgg0
  z0 := Tryz.sizeOf0
  v0 := Tryz.zeroValue0
  t3 := Tryz.underlying3
  a3 := Tryz.isAgg3
  z3 := Tryz.sizeOf3
  v3 := Tryz.zeroValue3
  t4 := Tryz.underlying4
  a4 := Tryz.isAgg4
  z4 := Tryz.sizeOf4
  v4 := Tryz.zeroValue4
  t5 := Tryz.underlying5
  a5 := Tryz.isAgg5
  z5 := Tryz.sizeOf5
  v5 := Tryz.zeroValue5
  t9 := Tryz.underlying9
  a9 := Tryz.isAgg9
  z9 := Tryz.sizeOf9
  v9 := Tryz.zeroValue9
  t22 := Tryz.underlying34
  a22 := Tryz.isAgg34
  z22 := Tryz.sizeOf34
  v22 := Tryz.zeroValue34
  t25 := Tryz.underlying81
  a25 := Tryz.isAgg81
  z25 := Tryz.sizeOf81
  v25 := Tryz.zeroValue81
  t39 := Tryz.underlying121
  a39 := Tryz.isAgg121
  z39 := Tryz.sizeOf121
  v39 := Tryz.zeroValue121
  t45 := Tryz.underlying153
  a45 := Tryz.isAgg153
  z45 := Tryz.sizeOf153
  v45 := Tryz.zeroValue153
  t46 := Tryz.underlying154
  a46 := Tryz.isAgg154
  z46 := Tryz.sizeOf154
  v46 := Tryz.zeroValue154
  t50 := Tryz.underlying158
  a50 := Tryz.isAgg158
  z50 := Tryz.sizeOf158
  v50 := Tryz.zeroValue158
  t53 := Tryz.underlying161
  a53 := Tryz.isAgg161
  z53 := Tryz.sizeOf161
  v53 := Tryz.zeroValue161
  t55 := Tryz.underlying92
  a55 := Tryz.isAgg92
  z55 := Tryz.sizeOf92
  v55 := Tryz.zeroValue92
  t66 := Tryz.underlying175
  a66 := Tryz.isAgg175
  z66 := Tryz.sizeOf175
  v66 := Tryz.zeroValue175
  t70 := Tryz.underlying178
  a70 := Tryz.isAgg178
  z70 := Tryz.sizeOf178
  v70 := Tryz.zeroValue178
  t76 := Tryz.underlying184
  a76 := Tryz.isAgg184
  z76 := Tryz.sizeOf184
  v76 := Tryz.zeroValue184
  t77 := Tryz.underlying70
  a77 := Tryz.isAgg70
  z77 := Tryz.sizeOf70
  v77 := Tryz.zeroValue70 }
end Go.Proofs
/- Layer 6: scores, sorted; Scores, Points. -/
namespace Go.Proofs.YtmcpnoailbmkkaaGreat
open Go Go.RowKit Go.Proofs Go.Shelf Go.Sort
/-- A score. -/
def eSc (p : Int × Int) : List Value := [.int .i64 p.1, .int .i64 p.2]
theorem ESc : Enc 2 eSc := ⟨fun _ => rfl, fun x v h => by
 simp [eSc] at h
 rcases h with rfl | rfl <;> rfl⟩
abbrev Scv (p : Int × Int) : Value := .agg #[.int .i64 p.1, .int .i64 p.2]
def bndC (p : Int × Int) : Prop := (-1 ≤ p.1 ∧ p.1 ≤ 1) ∧ 0 ≤ p.2 ∧ p.2 ≤ 100
def kyC (p : Int × Int) : Int := p.1 * 1000 + p.2
structure SCo where
 st : Int × Int
 ok : bndC st
instance : Inhabited SCo := ⟨⟨(0, 0), by unfold bndC; decide⟩⟩
def encC (x : SCo) : List Value := eSc x.1
def cfC (x y : SCo) : Int := if x.1.1 ≠ y.1.1 then x.1.1 - y.1.1 else x.1.2 - y.1.2
set_option maxHeartbeats 1000000 in
theorem closure_sC (x y : SCo) (W : World) : Calls Tryz.prog 30 #[.agg (encC x).toArray, .agg (encC y).toArray] W fun e w' => e = .returned (.int .i64 (cfC x y)) ∧ ∃ q os', w' = grow (W.drewN q) os' := by
 obtain ⟨⟨t1, n1⟩, ⟨⟨a1, a2⟩, a3, a4⟩⟩ := x
 obtain ⟨⟨t2, n2⟩, ⟨⟨b1, b2⟩, b3, b4⟩⟩ := y
 simp only at a1 a2 a3 a4 b1 b2 b3 b4
 show Calls Tryz.prog 30 #[Scv (t1, n1), Scv (t2, n2)] W _
 by_cases ht : t1 = t2
 ·have e : cfC ⟨(t1, n1), ⟨⟨a1, a2⟩, a3, a4⟩⟩ ⟨(t2, n2), ⟨⟨b1, b2⟩, b3, b4⟩⟩ = n1 - n2 := if_neg (fun h => h ht)
  rw [e]
  clear e
  go_enter Tryz.func30, Tryz.ntmps30
  go_wp2_with fail
  go_ret
  exact ⟨rfl, 0, _, by rw [alloc_eq_grow, alloc_eq_grow, grow_grow]; rfl⟩
 ·have e : cfC ⟨(t1, n1), ⟨⟨a1, a2⟩, a3, a4⟩⟩ ⟨(t2, n2), ⟨⟨b1, b2⟩, b3, b4⟩⟩ = t1 - t2 := if_pos ht
  rw [e]
  clear e
  go_enter Tryz.func30, Tryz.ntmps30
  go_wp2_with fail
  go_ret
  exact ⟨rfl, 0, _, by rw [alloc_eq_grow, alloc_eq_grow, grow_grow]; rfl⟩
theorem lt_sC (x y : SCo) : ltOf cfC x y = decide (kyC x.1 < kyC y.1) := by
 obtain ⟨⟨t1, n1⟩, ⟨⟨a1, a2⟩, a3, a4⟩⟩ := x
 obtain ⟨⟨t2, n2⟩, ⟨⟨b1, b2⟩, b3, b4⟩⟩ := y
 simp only at a1 a2 a3 a4 b1 b2 b3 b4
 unfold ltOf cfC kyC
 dsimp only
 by_cases ht : t1 = t2
 ·subst ht
  by_cases h : n1 < n2
  ·simp [h]; omega
  ·simp [h]; omega
 ·simp only [ht, ne_eq, not_false_eq_true, if_true]
  by_cases h : t1 < t2
  ·rw [decide_eq_true (by omega), decide_eq_true (by omega)]
  ·rw [decide_eq_false (by omega), decide_eq_false (by omega)]
theorem swo_sC : SWO (ltOf cfC) where
 irrefl x := by rw [lt_sC]; simp
 trans x y z h1 h2 := by rw [lt_sC] at *; simp at *; omega
 ntrans x y z h1 h2 := by rw [lt_sC] at *; simp at *; omega
theorem grown_sC {w : World} {g n : Nat} {os : Array Obj} (d : Array SCo) : w.grownBy (sortWorldK encC 2 w g 0 n d os) (some g) := by
 refine ⟨rfl, rfl, rfl, by simp [sortWorldK, putRowK, putRow, mapBlock, grow, Sort.ahead], fun k hk hne => ?_⟩
 unfold sortWorldK putRowK
 rw [heap_grow_old _ _ (by simpa [putRow, mapBlock, Sort.ahead] using hk)]
 have : g ≠ k := fun e => hne (by rw [e])
 simp [putRow, mapBlock, Sort.ahead, Array.getElem?_modify, this]
/-- Scores as the sort's elements. -/
def toSC (l : List (Int × Int)) (h : ∀ s ∈ l, bndC s) : List SCo := l.attach.map fun s => ⟨s.1, h s.1 s.2⟩
theorem toSC_val (l : List (Int × Int)) (h : ∀ s ∈ l, bndC s) : (toSC l h).map SCo.st = l := by
 unfold toSC
 rw [List.map_map]
 show l.attach.map (fun s => s.1) = l
 exact List.attach_map_subtype_val l
theorem flat_sC (d : Array SCo) (l : List (Int × Int)) (hd : d.toList.map SCo.st = l) (j : Nat) (hj : j < l.length * 2) : (l.flatMap eSc)[j]? = some (flatK encC 2 d)[j]! := by
 have hs : d.size = l.length := by rw [← hd]; simp
 rw [get_flatK _ _ _ _ (by rw [hs]; exact hj)]
 have hq : j / 2 < l.length := by omega
 have hqd : j / 2 < d.size := by omega
 have h1 := flat_get ESc hq (j % 2) (by omega)
 have e : j / 2 * 2 + j % 2 = j := by omega
 rw [e] at h1
 have h2 : (d[j / 2]!).1 = l[j / 2]'hq := by
  rw [getElem!_pos d (j / 2) hqd]
  have : (d.toList.map SCo.st)[j / 2]? = l[j / 2]? := by rw [hd]
  rw [List.getElem?_map, Array.getElem?_toList, Array.getElem?_eq_getElem hqd, List.getElem?_eq_getElem hq] at this
  simpa using this
 rw [h1]
 show _ = some (eSc (d[j / 2]!).1)[j % 2]!
 rw [h2, List.getElem!_eq_getElem?_getD]
 have hlt : j % 2 < (eSc (l[j / 2]'hq)).length := by rw [ESc.len]; omega
 rw [List.getElem?_eq_getElem hlt]; rfl
theorem row_sC {w : World} {g cap m : Nat} {d d' : Array SCo} {l l' : List (Int × Int)} {os : Array Obj} (h : w.ownsRow 0 38 2 (.slice (some ⟨g, 0, none⟩) l.length cap) l.length (l.flatMap eSc)) (hd : d.toList.map SCo.st = l) (hd' : d'.toList.map SCo.st = l') (hs : d'.size = d.size) :
  HoldsK encC 2 w g 0 d ∧ (sortWorldK encC 2 w g 0 m d' os).ownsRow 0 38 2 (.slice (some ⟨g, 0, none⟩) l'.length cap) l'.length (l'.flatMap eSc) := by
 have hn : d.size = l.length := by rw [← hd]; simp
 have hn' : d'.size = l'.length := by rw [← hd']; simp
 have hH : HoldsK encC 2 w g 0 d := by
  intro j hj
  rw [size_flatK, hn] at hj
  rw [Nat.zero_add]
  have hlen := flat_len ESc l
  have h1 := flat_sC d l hd j hj
  rw [List.getElem?_eq_getElem (by omega)] at h1
  refine ⟨?_, h.frozenAt j⟩
  rw [h.cellAt j hj, List.getElem?_eq_getElem (by omega), h1]; rfl
 refine ⟨hH, ?_⟩
 obtain ⟨h1, h2⟩ := h
 rcases h2 with ⟨h2, -⟩ | ⟨g', cap', cur, e, -, hg, hc1, hc2, hc3, hc4⟩
 ·cases h2
 injection e with e1 _ e3
 injection e1 with e1
 injection e1 with e1
 subst e1 e3
 have hgl := (Array.getElem?_eq_some_iff.1 hg).1
 have hheap : (sortWorldK encC 2 w g 0 m d' os).heap[g]? = some (.cells (putCells id 0 (flatK encC 2 d') cur) 38 (0, 0)) := by
  unfold sortWorldK putRowK
  rw [heap_grow_old _ _ (by simpa [putRow, mapBlock, Sort.ahead] using hgl)]
  simp [putRow, mapBlock, Sort.ahead, Array.getElem?_modify, hg, onCells]
 refine ⟨by rw [flat_len ESc], .inr ⟨g, cap, _, rfl, Nat.zero_le _, hheap, by omega, hc2, by simp [putCells, hc3], ?_⟩⟩
 apply List.ext_getElem?
 intro j
 rw [List.getElem?_take]
 by_cases hj : j < l'.length * 2
 ·rw [if_pos hj, flat_sC d' l' hd' j hj]
  have hjc : j < cur.size := by omega
  simp [putCells, hjc, hn', hj]
 ·rw [if_neg hj, List.getElem?_eq_none (by rw [flat_len ESc]; omega)]
theorem sorted_sC {l : List (Int × Int)} {d d' : Array SCo} (hd : d.toList.map SCo.st = l) (hp : Go.Sort.PermIn 0 d.size d d') (hs : Go.Sort.SortedIn (ltOf cfC) 0 d.size d') :
  (d'.toList.map SCo.st).Perm l ∧ (d'.toList.map SCo.st).Pairwise (fun a b => kyC a ≤ kyC b) := by
 obtain ⟨h1, -, h2⟩ := hp
 constructor
 ·rw [← hd]
  have e1 : d'.extract 0 d.size = d' := by rw [← h1]; exact Array.extract_size
  have e2 : d.extract 0 d.size = d := Array.extract_size
  rw [e1, e2] at h2
  exact h2.map _
 ·rw [List.pairwise_map, List.pairwise_iff_getElem]
  intro i j hi hj hij
  have hi' : i < d'.size := by simpa using hi
  have hj' : j < d'.size := by simpa using hj
  have h3 := hs i j (Nat.zero_le _) hij (by omega)
  rw [lt_sC] at h3
  rw [getElem!_pos d' j hj', getElem!_pos d' i hi'] at h3
  simp only [decide_eq_false_iff_not] at h3
  simp only [Array.getElem_toList]
  omega
theorem SortFuncC (l : List (Int × Int)) (g c : Nat) (w : World) (hA : (ownB 38 2 (some ⟨g, 0, none⟩) l.length c (l.flatMap eSc)).holds w) (hAf : ∀ b, (ownB 38 2 (some ⟨g, 0, none⟩) l.length c (l.flatMap eSc)).foot b → b < w.heap.size) (hb : ∀ s ∈ l, bndC s) (hl : l.length ≤ 2000) :
  Calls Tryz.prog 29 #[.slice (some ⟨g, 0, none⟩) l.length c, .func (.func 30) #[] #[]] w (RetM (ownB 38 2 (some ⟨g, 0, none⟩) l.length c (l.flatMap eSc)) (fun L : List (Int × Int) => L.Perm l ∧ L.Pairwise (fun a b => kyC a ≤ kyC b)) (fun _ => .tuple #[]) (fun L => ownB 38 2 (some ⟨g, 0, none⟩) L.length c (L.flatMap eSc)) w) := by
 have hA' : w.ownsRow 0 38 2 (.slice (some ⟨g, 0, none⟩) l.length c) l.length (l.flatMap eSc) := hA
 have hst := Wd.startM hA hAf
 rcases hA'.2 with ⟨h1, -⟩ | ⟨g', cap, cur, h1, -, hg, hlc, hcm, -⟩
 ·cases h1
 injection h1 with e1 _ e3
 injection e1 with e1
 injection e1 with e1
 subst e1 e3
 obtain ⟨d, hdd⟩ : ∃ d : Array SCo, d.toList.map SCo.st = l := ⟨(toSC l hb).toArray, toSC_val l hb⟩
 have hds : d.size = l.length := by rw [← hdd]; simp
 have eg : ∀ args w, (callFunc 30 args).run Tryz.prog w = .ok (.enter 30 args) w := enters_of Tryz.func30 (by kernel_rfl) rfl
 have hgl := (Array.getElem?_eq_some_iff.1 hg).1
 have h70 := AnyQ.slices_SortFunc Tryz.sortSc 2 (fun w => by kernel_rfl) (fun w => by kernel_rfl) encC (fun _ => rfl) (fun x v hv => ESc.one x.1 v hv) cfC swo_sC 30 #[] g 0 c d w eg (fun _ _ _ _ x y => closure_sC x y _) (row_sC (m := 0) (os := #[]) hA' hdd hdd rfl).1 hgl (by omega)
 rw [hds] at h70
 refine h70.mono ?_
 rintro e w' ⟨rfl, d', n, os, hp, hs, rfl⟩
 have hsz : d'.size = d.size := hp.1
 rw [← hds] at hp hs
 obtain ⟨o1, o2⟩ := sorted_sC hdd hp hs
 have hrow := (row_sC (m := n) (os := os) hA' hdd rfl hsz).2
 have hgr := grown_sC (w := w) (g := g) (n := n) (os := os) d'
 refine ⟨_, ⟨o1, o2⟩, rfl, hst.chg (At.here _) rfl rfl ⟨hgr.os, hgr.tape, hgr.output, hgr.size, fun b hb hn => hgr.block b hb (fun e => hn (by injection e with e; rw [← e]; rfl))⟩ hrow (fun b hb => ?_)⟩
 obtain rfl : g = b := by simpa [ownB, Value.ownBlock] using hb
 exact ⟨.inl rfl, Nat.lt_of_lt_of_le hgl hgr.size⟩

attribute [local irreducible] J JQ JL JA JD
end Go.Proofs.YtmcpnoailbmkkaaGreat
/-
  DERIVED: THE SHELF's CONTRACTS AT THIS DUMP, IN PLAIN WORDS (tools/lay-plain.mjs out of 'YtmcpnoailbmkkaaGreatShl.lean', which tools/lay-shelf.mjs wrote): THE SAME DECLARATIONS UNDER THE SAME NAMES: 'import', 'namespace', 'open', 'def', 'theorem' AND NOTHING ELSE: no command of the shelf's: FOR A HAND-IN. Each laying: the table of numbers ('.._ren') and one theorem, a field a fact of the dump's own or the kernel's comparison; each contract: ONE APPLICATION.
-/
namespace Go.Proofs
open Go.Shelf
def Tryz.lays125_ren : Go.Shelf.Ren := ⟨fun | 125 => 61 | 128 => 100 | 129 => 101 | n => n, fun | 46 => 121 | 3 => 3 | 51 => 161 | 53 => 92 | 4 => 4 | 5 => 5 | 9 => 9 | n => n, fun | n => n⟩
theorem Tryz.lays125 : Go.Proofs.Lays.n125 Tryz.prog Tryz.lays125_ren := {
  mixed := by kernel_rfl
  f125 := Tryz.func61.trans (congrArg some (by kernel_rfl))
  f128 := Tryz.func100.trans (congrArg some (by kernel_rfl))
  f129 := Tryz.func101.trans (congrArg some (by kernel_rfl))
  t3 := Tryz.underlying3
  a3 := Tryz.isAgg3
  z3 := Tryz.sizeOf3
  v3 := Tryz.zeroValue3
  t4 := Tryz.underlying4
  a4 := Tryz.isAgg4
  z4 := Tryz.sizeOf4
  v4 := Tryz.zeroValue4
  t5 := Tryz.underlying5
  a5 := Tryz.isAgg5
  z5 := Tryz.sizeOf5
  v5 := Tryz.zeroValue5
  t9 := Tryz.underlying9
  a9 := Tryz.isAgg9
  z9 := Tryz.sizeOf9
  v9 := Tryz.zeroValue9
  t46 := Tryz.underlying121
  a46 := Tryz.isAgg121
  z46 := Tryz.sizeOf121
  v46 := Tryz.zeroValue121
  t51 := Tryz.underlying161
  a51 := Tryz.isAgg161
  z51 := Tryz.sizeOf161
  v51 := Tryz.zeroValue161
  t53 := Tryz.underlying92
  a53 := Tryz.isAgg92
  z53 := Tryz.sizeOf92
  v53 := Tryz.zeroValue92 }
/-- bits.Len: "Len returns the minimum number of bits required to represent x; the result is 0 for x == 0.": IT RETURNS 'Lib.bitLen x'; the world is as it was. (A uint has 64 bits in the model.) ITS CALLEE bits.Len64 IS MET BY ITS OWN CONTRACT OFF THE SHELF (lay that first). (LAID: no walk: one application.) -/
theorem Tryz.bits_Len (x : Int) (w : World) (h0 : 0 ≤ x) (h1 : x ≤ 18446744073709551615) :
    Calls Tryz.prog 61 #[.int .u64 x] w fun e w' => e = .returned (.int .i64 (Lib.bitLen x.toNat)) ∧ w' = w := Any.bits_Len Tryz.lays125 x w h0 h1
end Go.Proofs
/- Layer 6: Scores, Points. -/
namespace Go.Proofs.YtmcpnoailbmkkaaGreat
open Go Go.RowKit Go.Proofs
attribute [local irreducible] J JQ JL JA JD

def eqF (d : Nat) (xs ys : Array Value) : List (Bool × TypeId × Nat) → Sem Bool
 | [] => pure true
 | (n, t, o) :: fs =>
  if n = true then do
   let a ← part t xs o
   let b ← part t ys o
   let r ← Op.equalIn d t a b
   if (!r) = true then pure false else eqF d xs ys fs
  else eqF d xs ys fs
theorem eqF_of (d : Nat) (xs ys : Array Value) (l : List Field) : Op.eqFields d xs ys l = eqF d xs ys (l.map (fun f => (f.name != "_", f.type, f.offset))) := by
 induction l with
 | nil => rfl
 | cons f l ih => simp only [Op.eqFields, List.map_cons, eqF, bne_iff_ne, ih]
theorem ein3 (d : Nat) (a b : Int) (w : World) : (Op.equalIn (d + 1) 3 (.int .i64 a) (.int .i64 b)).run Tryz.prog w = .ok (a == b) w := run_equalIn_int w d 3 .i64 .i64 a b Tryz.underlying3

theorem nodup_le {α : Type} [DecidableEq α] : ∀ {S K : List α}, S.Nodup → (∀ x ∈ S, x ∈ K) → S.length ≤ K.length
 | [], _, _, _ => Nat.zero_le _
 | a :: S, K, h, hs => by
  have hn := List.nodup_cons.1 h
  have ih := nodup_le (K := K.erase a) hn.2 (fun x hx => (List.mem_erase_of_ne (fun e => hn.1 (by rw [← e]; exact hx))).2 (hs x (List.mem_cons_of_mem _ hx)))
  have hm := hs a List.mem_cons_self
  have e := List.length_erase_of_mem hm
  have hp := List.length_pos_of_mem hm
  rw [List.length_cons]; omega
theorem bndL_ok {n : Nat} {rs : List Rdg} (h : ∀ r ∈ rs, rtB r (n : Nat) = true) : ∀ r ∈ bndL n rs, 0 ≤ r.lo ∧ r.hi ≤ 70368744177664 := by
 have H : ∀ (rs L : List Rdg), (∀ r ∈ rs, rtB r (n : Nat) = true) → (∀ r ∈ L, 0 ≤ r.lo ∧ r.hi ≤ 70368744177664) → ∀ r ∈ rs.foldl bndS L, 0 ≤ r.lo ∧ r.hi ≤ 70368744177664 := by
  intro rs
  induction rs with
  | nil => intro L _ hL; exact hL
  | cons a rs ih =>
   intro L hr hL
   rw [List.foldl_cons]
   refine ih _ (fun r hm => hr r (List.mem_cons_of_mem _ hm)) (fun r hm => ?_)
   have ha := hr a List.mem_cons_self
   unfold rtB at ha
   rw [Bool.and_eq_true, Bool.and_eq_true] at ha
   have a1 := of_decide_eq_true ha.1.2
   have a2 := of_decide_eq_true ha.2
   unfold bndS at hm
   rcases List.mem_or_eq_of_mem_set hm with h1 | h1
   ·exact hL r h1
   ·rw [h1]; dsimp only; omega
 refine H rs _ h (fun r hr => ?_)
 unfold bnd0 at hr
 obtain ⟨i, -, rfl⟩ := List.mem_map.1 hr
 dsimp only; omega
theorem bnd_ok {n : Nat} {rs : List Rdg} (h : bndE n rs = 0) : rdOk (bndL n rs) := by
 unfold bndE at h
 split at h
 ·cases h
 split at h
 ·cases h
 rename_i h2
 split at h
 ·cases h
 rename_i h3
 intro r hr
 have hv : ∀ r ∈ rs, rtB r (n : Nat) = true := fun r hr => by
  cases hb : rtB r (n : Nat)
  ·exact absurd (.inr (List.any_eq_true.2 ⟨r, hr, by rw [hb]; rfl⟩)) h2
  ·rfl
 have h4 := bndL_ok hv r hr
 have h5 : ¬ r.hi < r.lo := fun hc => h3 (List.any_eq_true.2 ⟨r, hr, decide_eq_true hc⟩)
 omega
theorem sdL_ok {l : List St} {L : List Rdg} {tm : Int} {k : Nat} (hk : k ≤ L.length) (h : rdOk L) : rdOk (sdL l L tm k) := by
 intro r hr
 unfold sdL at hr
 obtain ⟨i, hi, rfl⟩ := List.mem_map.1 hr
 rw [List.mem_filter, List.mem_range] at hi
 have hl : i < L.length := by omega
 rw [List.getD_eq_getElem?_getD, List.getElem?_eq_getElem hl]
 exact h _ (List.getElem_mem hl)
theorem sdE_0 {l : List St} {rs : List Rdg} (h : sdE l rs = 0) : ¬ 256 < rs.length ∧ mkB l = true ∧ bndE l.length rs = 0 := by
 unfold sdE at h
 split at h
 ·cases h
 rename_i h1
 split at h
 ·rename_i h2; exact ⟨h1, h2, h⟩
 ·cases h
/-- All scores, in order. -/
def ScQ (a b : List Rdg) (L : List (Int × Int)) : Prop := L.Nodup ∧ (∀ x n, (x, n) ∈ L ↔ scP a b x n) ∧ L.Pairwise (fun p q => kyC p ≤ kyC q) ∧ L.length ≤ 1100
theorem sc_bnd {a b : List Rdg} (ha : a.length ≤ 16) (hb : b.length ≤ 16) {x n : Int} (h : scP a b x n) : bndC (x, n) := by
 unfold bndC
 rcases h with ⟨rfl, rfl, -⟩ | ⟨rfl, k, -, h1, h2⟩ | ⟨rfl, k, -, h1, h2⟩
 ·decide
 ·have := ca_len a k; dsimp only; omega
 ·have := ca_len b k; dsimp only; omega
theorem bnd_w {p : Int × Int} (h : bndC p) : okN2 p := by unfold bndC at h; unfold okN2 W64; omega
structure ScR where
 L : List (Int × Int)
 A : Option Addr
 c : Nat
set_option maxRecDepth 100000 in
theorem lit1 {n : Nat} {v : Value} {l : List Lit} (h : Tryz.prog.keyLits (n + 1) 3 [v] = some l) : ∃ x, v = .int .i64 x ∧ W64 x := by
 unfold Program.keyLits at h
 rw [Tryz.underlying3] at h
 cases v <;> simp at h
 rename_i q x
 obtain ⟨⟨rfl, hw⟩, -⟩ := h
 exact ⟨x, rfl, by unfold W64; simp [Lit.wf, IntKind.min, IntKind.max, IntKind.signed, IntKind.bits] at hw; omega⟩
set_option maxRecDepth 100000 in
theorem keyC (key : Value) (kl : Lit) (h : keyOf Tryz.prog 38 key = some kl) : ∃ x, key = kN x ∧ okN2 x := by
 obtain ⟨xs, L, rfl, h1, -⟩ := keyOf_top (by kernel_rfl) h
 obtain ⟨n, hn⟩ : ∃ n, Tryz.prog.types.size = n + 1 := ⟨206, by kernel_rfl⟩
 have hc3 : Tryz.prog.cellsOf 3 = 1 := by kernel_rfl
 rw [hn] at h1
 unfold Program.keyLits at h1
 rw [Tryz.underlying38] at h1
 dsimp only at h1
 split at h1
 ·rename_i hl
  have hl2 : xs.toList.length = 2 := by rw [hl.1]; exact cellsC38
  obtain ⟨a, b, hx⟩ : ∃ a b, xs.toList = [a, b] := by
   match hm : xs.toList, hl2 with
   | [a, b], _ => exact ⟨a, b, rfl⟩
  rw [hx] at h1
  cases e0 : Tryz.prog.keyLits (n + 1) 3 [a] with
  | none => simp [hc3, e0] at h1
  | some l0 =>
   cases e1 : Tryz.prog.keyLits (n + 1) 3 [b] with
   | none => simp [hc3, e0, e1] at h1
   | some l1 =>
    obtain ⟨x, rfl, hx1⟩ := lit1 e0
    obtain ⟨y, rfl, hy1⟩ := lit1 e1
    refine ⟨(x, y), ?_, hx1, hy1⟩
    show Value.agg xs = .agg #[.int .i64 x, .int .i64 y]
    congr 1
    exact Array.ext' hx
 ·cases h1
instance cfi_92 : Cf Tryz.prog 92 := ⟨fun _ _ => by kernel_rfl⟩
instance cfi_60 : Cf Tryz.prog 60 := ⟨fun _ _ => by kernel_rfl⟩
instance cfi_61 : Cf Tryz.prog 61 := ⟨fun _ _ => by kernel_rfl⟩
set_option maxRecDepth 100000 in
set_option maxHeartbeats 4000000 in
theorem insNil (w : World) : Calls Tryz.prog 92 #[.slice none 0 0, .int .i64 0, .int .i64 0, .func (.func 30) #[] #[]] w (Back (.tuple #[]) w) := by
 refine J_enter (fun _ => False) (vs := [.slice none 0 0, .int .i64 0, .int .i64 0, .func (.func 30) #[] #[]]) (k := 49) (l := [(0, .slice none 0 0), (1, .int .i64 0), (2, .int .i64 0), (3, .func (.func 30) #[] #[])]) Tryz.func92 rfl rfl Tryz.ntmps92 rfl rfl (Wd.start _) ?_
 refine s8 ?_
 refine xL (T := Unit) (fun _ => True) (fun _ => [(2, .int .i64 0), (8, .int .i64 1)]) (fun _ => []) (fun _ => 0) () trivial ?_
 rintro ⟨⟩ _
 refine s6 ?_
 refine aDecF ?_ (by decide)
 refine s7 ?_
 refine JR_end rfl ?_
 intro w' hw
 exact ⟨rfl, hw.bel⟩
set_option maxRecDepth 100000 in
set_option maxHeartbeats 4000000 in
theorem pdqNil (k : Int) (w : World) : Calls Tryz.prog 60 #[.slice none 0 0, .int .i64 0, .int .i64 0, .int .i64 k, .func (.func 30) #[] #[]] w (Back (.tuple #[]) w) := by
 refine J_enter (fun _ => False) (vs := [.slice none 0 0, .int .i64 0, .int .i64 0, .int .i64 k, .func (.func 30) #[] #[]]) (k := 143) (l := [(0, .slice none 0 0), (1, .int .i64 0), (2, .int .i64 0), (3, .int .i64 k), (4, .func (.func 30) #[] #[])]) Tryz.func60 rfl rfl Tryz.ntmps60 rfl rfl (Wd.start _) ?_
 refine s11 ?_
 refine xL (T := Unit) (fun _ => True) (fun _ => [(0, .slice none 0 0), (1, .int .i64 0), (2, .int .i64 0), (4, .func (.func 30) #[] #[])]) (fun _ => []) (fun _ => 0) () trivial ?_
 rintro ⟨⟩ _
 refine s14 ?_
 refine aDecT ?_ (by decide)
 refine s4 ?_
 refine kJ [(0, _), (1, _), (2, _), (4, _)] ?_
 refine s5 ?_
 refine aCB (fun w hw => insNil w) ?_
 refine s7 ?_
 refine JR_none rfl ?_
 intro w' hw
 exact ⟨rfl, hw.bel⟩
set_option maxRecDepth 100000 in
set_option maxHeartbeats 4000000 in
theorem sortNil (w : World) : Calls Tryz.prog 29 #[.slice none 0 0, .func (.func 30) #[] #[]] w (Back (.tuple #[]) w) := by
 refine J_enter (fun _ => False) (vs := [.slice none 0 0, .func (.func 30) #[] #[]]) (k := 12) (l := [(0, .slice none 0 0), (1, .func (.func 30) #[] #[])]) Tryz.func29 rfl rfl Tryz.ntmps29 rfl rfl (Wd.start _) ?_
 refine s11 ?_
 refine aP (rp1 rfl (fun _ h1 _ => ex_conv (k := .i64) (k' := .u64) (a := 0) rfl h1 (by decide))) ?_
 refine aCB (fun w hw => (Tryz.bits_Len 0 w (by decide) (by decide)).mono (fun _ _ h => ⟨h.1, by rw [h.2]; exact Below.refl _ _⟩)) ?_
 refine s1 ?_
 refine aCB (fun w hw => pdqNil _ w) ?_
 refine s1 ?_
 refine JR_end rfl ?_
 intro w' hw
 exact ⟨rfl, hw.bel⟩
set_option maxRecDepth 100000 in
set_option maxHeartbeats 4000000 in
theorem Scores_ok (l : List St) (rs : List Rdg) (v v2 : Value) (w : World) (hrow : Arr 4 eT w v l) (hrs : Arr 3 eRd w v2 rs) (hE : sdE l rs = 0) : Calls Tryz.prog 9 #[v, v2] w (Ret w (fun t : ScR => ScQ (sdF l rs 0) (sdF l rs 1) t.L) (fun t => .tuple #[.slice t.A t.L.length t.c, .int .i64 0]) (fun t => [ownB 38 2 t.A (t.L).length t.c ((t.L).flatMap eSc)])) := by
 have hrow0 := hrow
 have hrs0 := hrs
 obtain ⟨A, cap, rfl, -, ⟨hl9, -⟩, hA⟩ := hrow
 obtain ⟨A2, cap2, rfl, -, ⟨hl8, -⟩, hA2⟩ := hrs
 obtain ⟨h, h2, h3⟩ := sdE_0 hE
 have hl16 := (mk_facts h2).1
 have hbk := bnd_ok h3
 have hbl := bndL_len l.length rs
 have hka : rdOk (sdF l rs 0) := sdL_ok (by omega) hbk
 have hkb : rdOk (sdF l rs 1) := sdL_ok (by omega) hbk
 have hla : (sdF l rs 0).length ≤ 16 := Nat.le_trans (sdL_len _ _ _ _) hl16
 have hlb : (sdF l rs 1).length ≤ 16 := Nat.le_trans (sdL_len _ _ _ _) hl16
 obtain ⟨K, hK⟩ : ∃ K, scK (sdF l rs 0) (sdF l rs 1) 2 = K := ⟨_, rfl⟩
 have hKl : K.length ≤ 1100 := by rw [← hK]; exact scK_len hla hlb 2
 refine J_enter (fun _ => False) (vs := [.slice A l.length cap, .slice A2 rs.length cap2]) (k := 33) (l := [(0, .slice A l.length cap), (1, .slice A2 rs.length cap2)]) Tryz.func9 rfl rfl Tryz.ntmps9 rfl rfl (Wd.start _) ?_
 refine s10 ?_
 refine aW (oR (fun w hw => sides_ok l rs _ _ w (hrow0.up ET hw.bel) (hrs0.up ERd hw.bel) h h2 h3)) (fun t14 _ => ?_)
 obtain ⟨vA0, vc0, zA, zc, yA, yc⟩ := t14
 dsimp only
 refine s4 ?_
 refine aW oA (fun b7 hb7 => ?_)
 refine s7 ?_
 refine kJ [(7, _), (8, _)] ?_
 refine s3 ?_
 refine aDecF ?_ (by decide)
 refine s14 ?_
 refine aW (oR (fun w hw => (scores_any (sdF l rs 0) (sdF l rs 1) zA yA zc yc w (own_arr (A := zA) (c := zc) (ty := 47) ERd hw (by repeat constructor) (by omega)) (own_arr (A := yA) (c := yc) (ty := 47) ERd hw (by repeat constructor) (by omega)) hka hkb hla hlb).mono (fun _ _ hh => by obtain ⟨m, h1, h2, h3⟩ := hh; rw [hK] at h3; exact ⟨m, h1, h2, h3.turn (C := mapK Tryz.prog 38 4 kN okN2 dB m K.length (setG K)) (At.here _) (fun h => h) (h3.ok (setB Tryz.prog 38 kN okN2 m (K)) (by simp)).1 (fun _ h => h)⟩))) (fun gm _ => ?_)
 refine aW (ow_range (ev := kB) KSC Und.h rfl rfl rfl rfl (by intro r c; repeat constructor)) (fun t23 ht23 => ?_)
 refine s3 ?_
 refine J_own0 38 2 ?_
 refine xL (T := Nat × List (Int × Int) × Option ((Int × Int) × Bool) × Option Addr × Nat) (fun q => q.2.1.Nodup ∧ ∀ x ∈ q.2.1, x ∈ K) (fun q => [(9, .slice q.2.2.2.1 q.2.1.reverse.length q.2.2.2.2), (23, .pointer (some ⟨t23.1, 0, none⟩))]) (fun q => [rngK Tryz.prog 38 4 kN okN2 kB dB gm t23.1 K.length q.1 (setG K) q.2.1 q.2.2.1, ownB 38 2 q.2.2.2.1 (q.2.1.reverse).length q.2.2.2.2 ((q.2.1.reverse).flatMap eSc)]) (fun q => q.1) (t23.2, [], none, none, 0) ⟨List.nodup_nil, fun _ h => by cases h⟩ ?_
 rintro ⟨cnt, S, last, vA, vc⟩ ⟨hS1, hS2⟩
 dsimp only at hS1 hS2 ⊢
 have hSl := nodup_le hS1 hS2
 have hSr : S.reverse.length = S.length := List.length_reverse
 refine s2 ?_
 refine aW (ow_next (e := 4) (ed := dB) (b := gm) (m' := K.length) (cnt := cnt) (f := setG K) (S := S) (last := last) KSC keyC LBool rfl rfl rfl rfl (by intro u; repeat constructor)) (fun t24 ht24 => ?_)
 obtain _ | ⟨x, b, c'⟩ := t24
 ·dsimp only [nxP] at ht24
  have hu := ht24
  dsimp only [nxV, nxI]
  refine s11 ?_
  refine J_rngEnd (b := gm) (by repeat constructor) ?_
  have hall : ∀ x n, (x, n) ∈ S ↔ scP (sdF l rs 0) (sdF l rs 1) x n := fun x n => by
   rw [← scK_mem, hK]
   exact ⟨fun h => hS2 _ h, fun h => hu _ (bnd_w (sc_bnd hla hlb (by rw [← scK_mem, hK]; exact h))) (by unfold setG; rw [if_pos h]; rfl)⟩
  have hSb : ∀ p ∈ S, bndC p := fun p hp => sc_bnd hla hlb ((hall p.1 p.2).1 hp)
  refine J_fact (fun hw => ?_)
  rcases own_cs hw (ty := 38) (k := 2) (A := vA) (m := S.reverse.length) (c := vc) (xs := S.reverse.flatMap eSc) (by repeat constructor) with ⟨hz1, hz2, hz3⟩ | ⟨g, hz1⟩
  ·clear hw
   have hz4 : S = [] := by simpa using hz2
   rw [hz1, hz3, hz4]
   refine s2 ?_
   refine aCB (fun w hw => sortNil w) ?_
   refine s3 ?_
   refine kJ [(9, _)] ?_
   refine s7 ?_
   refine JR_two rfl (rr_tmp rfl) (rr_tmp rfl) ?_
   intro w' hw
   exact ⟨⟨[], none, 0⟩, ⟨List.nodup_nil, fun x n => by rw [← hall, hz4], List.Pairwise.nil, by simp⟩, rfl, hw.pick (by repeat constructor)⟩
  ·clear hw
   rw [hz1]
   refine s2 ?_
   refine aW (oM (fun w hw => SortFuncC (S.reverse) g vc w (hw.ok (ownB 38 2 (some ⟨g, 0, none⟩) (S.reverse).length vc ((S.reverse).flatMap eSc)) (by repeat constructor)).1 (hw.newA (A := ownB 38 2 (some ⟨g, 0, none⟩) (S.reverse).length vc ((S.reverse).flatMap eSc)) (by repeat constructor) rfl).2 (fun p hp => hSb p (by simpa using hp)) (by rw [List.length_reverse]; omega))) (fun L hL => ?_)
   refine s3 ?_
   refine kJ [(9, _)] ?_
   refine s7 ?_
   refine JR_two rfl (rr_tmp rfl) (rr_tmp rfl) ?_
   intro w' hw
   have hll := hL.1.length_eq
   rw [List.length_reverse] at hll
   exact ⟨⟨L, some ⟨g, 0, none⟩, vc⟩, ⟨(hL.1.nodup_iff).2 ((List.reverse_perm S).nodup_iff.2 hS1), fun x n => by rw [hL.1.mem_iff, List.mem_reverse]; exact hall x n, hL.2, by dsimp only; omega⟩, by dsimp only; rw [hll, List.length_reverse], hw.pick (by repeat constructor)⟩
 ·obtain ⟨hu1, hu2, hu3, hu4⟩ := ht24
  dsimp only [nxV, nxI]
  have hbt : b = true := by
   unfold setG at hu2
   split at hu2
   ·injection hu2 with e; exact e.symm
   ·cases hu2
  subst hbt
  refine s10 ?_
  refine aV (rv_entry rfl rfl (by repeat constructor)) ?_
  refine s1 ?_
  refine aW oA (fun b10 hb10 => ?_)
  refine s3 ?_
  refine kJ [(9, _), (10, _), (23, _)] ?_
  refine s3 ?_
  refine aW (ow_sliceC (vs := [_, _]) (ty := 38) rfl rfl (by rfl) rfl rfl (fun _ => by kernel_rfl)) (fun b30 hb30 => ?_)
  refine aS (oApp (sl := 34) ESc (x)) (fun A31 c31 => ?_)
  refine s3 ?_
  have hK : x ∈ K := by
   unfold setG at hu2
   by_cases hc : x ∈ K
   ·exact hc
   ·rw [if_neg hc] at hu2; cases hu2
  exact xR (c', x :: S, some (x, true), A31, c31) ⟨List.nodup_cons.2 ⟨hu3, hS1⟩, fun z hz => (List.mem_cons.1 hz).elim (fun e => e ▸ hK) (hS2 z)⟩ (by dsimp only; omega) (hl := ⟨(by dsimp only; rw [List.reverse_cons]; rfl), rfl, trivial⟩) (hH := by (try dsimp only); rw [List.reverse_cons]; repeat constructor)
def eqSc (a b a' b' : Int) : Bool := a == a' && b == b'
theorem eqSc_iff {p q : Int × Int} : eqSc p.1 p.2 q.1 q.2 = true ↔ p = q := by
 obtain ⟨a, b⟩ := p
 obtain ⟨a2, b2⟩ := q
 simp [eqSc]
theorem foC : Tryz.prog.underlying 38 = some (.struct (Tryz.prog.fieldsOf 38)) := by kernel_rfl
theorem fnC : (Tryz.prog.fieldsOf 38).toList.map (fun f => (f.name != "_", f.type, f.offset)) = [(true, 3, 0), (true, 3, 1)] := by kernel_rfl
theorem paC (x y : Value) (w : World) : (part 3 #[x, y] 0).run Tryz.prog w = .ok x w ∧ (part 3 #[x, y] 1).run Tryz.prog w = .ok y w := ⟨by kernel_rfl, by kernel_rfl⟩
theorem einC (d : Nat) (a b a' b' : Int) (w : World) : (Op.equalIn (d + 2) 38 (Scv (a, b)) (Scv (a', b'))).run Tryz.prog w = .ok (eqSc a b a' b') w := by
 unfold eqSc
 rw [run_equalIn_struct w (d + 1) 38 _ _ foC (by kernel_rfl), eqF_of, fnC]
 cases h1 : a == a' <;> cases h2 : b == b' <;>
  simp [eqF, Sem.run_bind, (paC _ _ _).1, (paC _ _ _).2, ein3, h1, h2, Result.andThen_ok, Sem.run_pure]
section
variable {n : Nat} {l : Sl} {o : Oper} {x y : Operand} {ty : TypeId}
theorem pNeqSc {a b a' b' : Int} (ho : o.op = .binOp .neq 38 x y ty) (hx : evl l x = some (Scv (a, b))) (hy : evl l y = some (Scv (a', b'))) : RP Tryz.prog n l o (.bool (!eqSc a b a' b')) := rp2 hx hy (fun ρ h1 h2 w => by
 unfold execOp
 have h : (binOp .neq 38 (Scv (a, b)) (Scv (a', b'))).run Tryz.prog w = .ok (.bool (!eqSc a b a' b')) w := by
  have h := einC 9998 a b a' b' w
  rw [run_neq_struct, h]
  rfl
 have hg : Tryz.prog.eqGuardType Tryz.prog.depth 38 = false := by kernel_rfl
 simp only [ho, h1, h2]
 simp [eqGuard, Sem.run_bind, hg, h])
theorem pEqlSc {a b a' b' : Int} (ho : o.op = .binOp .eql 38 x y ty) (hx : evl l x = some (Scv (a, b))) (hy : evl l y = some (Scv (a', b'))) : RP Tryz.prog n l o (.bool (eqSc a b a' b')) := rp2 hx hy (fun ρ h1 h2 w => by
 unfold execOp
 have h : (binOp .eql 38 (Scv (a, b)) (Scv (a', b'))).run Tryz.prog w = .ok (.bool (eqSc a b a' b')) w := by
  have h := einC 9998 a b a' b' w
  rw [run_eql_struct, h]
  rfl
 have hg : Tryz.prog.eqGuardType Tryz.prog.depth 38 = false := by kernel_rfl
 simp only [ho, h1, h2]
 simp [eqGuard, Sem.run_bind, hg, h])
end
/-- The score, if it is sure. -/
def ptF : List (Int × Int) → (Int × Int) × Bool
 | [p] => (p, true)
 | _ => ((0, 0), false)
theorem ptF_no {L : List (Int × Int)} (h : ¬ L.length = 1) : ptF L = ((0, 0), false) := by
 match L, h with
 | [], _ => rfl
 | [p], h => exact absurd rfl h
 | p :: q :: r, _ => rfl
set_option maxRecDepth 100000 in
set_option maxHeartbeats 4000000 in
theorem Points_ok (l : List St) (rs : List Rdg) (v v2 : Value) (w : World) (hrow : Arr 4 eT w v l) (hrs : Arr 3 eRd w v2 rs) (hE : sdE l rs = 0) : Calls Tryz.prog 10 #[v, v2] w (Ret w (fun L : List (Int × Int) => ScQ (sdF l rs 0) (sdF l rs 1) L) (fun L => .tuple #[Scv (ptF L).1, .bool (ptF L).2, .int .i64 0]) (fun _ => [])) := by
 have hrow0 := hrow
 have hrs0 := hrs
 obtain ⟨A, cap, rfl, -, ⟨hl9, -⟩, hA⟩ := hrow
 obtain ⟨A2, cap2, rfl, -, ⟨hl8, -⟩, hA2⟩ := hrs
 refine J_enter (fun _ => False) (vs := [.slice A l.length cap, .slice A2 rs.length cap2]) (k := 24) (l := [(0, .slice A l.length cap), (1, .slice A2 rs.length cap2)]) Tryz.func10 rfl rfl Tryz.ntmps10 rfl rfl (Wd.start _) ?_
 refine s2 ?_
 refine aW oA (fun b4 hb4 => ?_)
 refine s8 ?_
 refine aW (oR (fun w hw => Scores_ok l rs _ _ w (hrow0.up ET hw.bel) (hrs0.up ERd hw.bel) hE)) (fun t11 ht11 => ?_)
 obtain ⟨L, vA, vc⟩ := t11
 dsimp only at ht11 ⊢
 have hL := ht11
 refine s9 ?_
 refine kJ [(4, _), (6, _), (7, _)] ?_
 refine s3 ?_
 refine aDecF ?_ (by decide)
 refine s4 ?_
 refine JL_dec (fun h19 => ?_) (fun h19 => ?_)
 ·refine s5 ?_
  refine kJ [(4, _), (6, _)] ?_
  refine s1 ?_
  refine aP (rp_buildC (fun us => [.int .i64 0, .int .i64 0]) rfl rfl (fun w => by kernel_rfl)) ?_
  refine s8 ?_
  refine JR_three rfl (rr_agg (cs := [_, _]) rfl Agg.h (Siz.h (k := 2)) (by repeat constructor) (by rfl)) (rr_tmp rfl) (rr_tmp rfl) ?_
  intro w' hw
  exact ⟨L, hL, by have e := ptF_no (L := L) (by omega); show _ = Ending.returned (.tuple #[Scv (ptF L).1, .bool (ptF L).2, .int .i64 0]); rw [e], hw.pick (Pk.nil _)⟩
 ·refine s7 ?_
  obtain ⟨⟨px, pn⟩, rfl⟩ : ∃ p, L = [p] := by
   match L, h19 with
   | [p], _ => exact ⟨p, rfl⟩
   | [], h => exact absurd (show ((([] : List (Int × Int)).length : Nat) : Int) ≠ 1 by simp) h
   | p :: q :: r, h => exact absurd (show (((p :: q :: r).length : Nat) : Int) ≠ 1 by simp; omega) h
  refine J_fact (fun hw => ?_)
  obtain ⟨g, rfl⟩ := own_some hw (ty := 38) (k := 2) (m := [(px, pn)].length) (c := vc) (A := vA) (xs := [(px, pn)].flatMap eSc) (by repeat constructor) (by simp)
  clear hw
  refine kJ [(4, _), (7, _)] ?_
  refine s2 ?_
  refine aP (pIdxI (0) rfl rfl rfl rfl) ?_
  refine aV (vOwnA (cs := [.int .i64 px, .int .i64 pn]) ESc (L := [(px, pn)]) (j := 0) rfl rfl (by repeat constructor) (by simp) rfl) ?_
  refine s6 ?_
  refine JR_three rfl (rr_agg (cs := [_, _]) rfl Agg.h (Siz.h (k := 2)) (by repeat constructor) (by rfl)) (rr_tmp rfl) (rr_tmp rfl) ?_
  intro w' hw
  exact ⟨_, hL, rfl, hw.pick (Pk.nil _)⟩
end Go.Proofs.YtmcpnoailbmkkaaGreat
