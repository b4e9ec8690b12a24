/- Layers of the proofs, joined: Vd Os. -/
import Derived.Test.YtmcpnoailbmkkaaPk4
import Derived.Test.YtmcpnoailbmkkaaRows
import Derived.ProofKit
import Derived.OpenShut
import Derived.Lib.SmallJoins
/- Across layers, the law: TopSides. -/
namespace Go.Proofs.Ytmcpnoailbmkkaa
open Go Go.RowKit Go.Proofs
attribute [local irreducible] J JQ JL JA JD

theorem cell_arr {α : Type} {k : Nat} {enc : α → List Value} (E : Enc k enc) {w : World} {b ty : Nat} {vs : List Value} (L : List α) (h : (cellB b vs ty).holds w) (hv : vs = L.flatMap enc) (hn : L.length ≤ 1000) : Arr k enc w (.slice (some ⟨b, 0, none⟩) L.length L.length) L := by
 subst hv
 refine ⟨_, _, rfl, Nat.le_refl _, ⟨by omega, by unfold maxLen; omega⟩, fun _ => ⟨b, 0, rfl, fun j hj i hi => ?_⟩⟩
 have h' : w.heap[b]? = some (.cells (L.flatMap enc).toArray ty (0, 0)) := h
 rw [Nat.zero_add, ← flat_get E hj i hi]
 have hlt : j * k + i < (L.flatMap enc).length := by
  rw [flat_len E]
  have : (j + 1) * k ≤ L.length * k := Nat.mul_le_mul_right k hj
  rw [Nat.succ_mul] at this; omega
 simp [World.cell?, h']
/-- What an end comes to: team, points, power play, position, error. -/
structure EnV where
 a : Int
 b : Int
 p : Bool
 m : List St
 e : Int
def enV (c : Cd) (first power : Int) (ys : List (Th × List St)) (cs : List Int) : EnV := if endE c first power ys cs = 0 then ⟨(scoF (endS c first power ys cs)).1, (scoF (endS c first power ys cs)).2.1, decide (power ≠ 0), (endS c first power ys cs).l, 0⟩ else ⟨0, 0, false, [], endE c first power ys cs⟩
def RetV (V : EnV) (w : World) : Ending → World → Prop := Ret w (fun _ : Option Addr × Nat => True) (fun t => .tuple #[Lnv V.a V.b V.p, .slice t.1 V.m.length t.2, .int .i64 V.e]) (fun t => [ownB 49 4 t.1 V.m.length t.2 (V.m.flatMap eT)])
theorem En_V {c : Cd} {first power : Int} {ys : List (Th × List St)} {cs : List Int} {w : World} {e : Ending} {w' : World} (h : RetEn c first power ys cs w e w') : RetV (enV c first power ys cs) w e w' := by
 unfold RetEn at h
 unfold enV
 split at h
 ·rename_i h1
  rw [if_pos h1]; exact h
 ·rename_i h1
  rw [if_neg h1]
  exact ⟨(none, 0), trivial, h.1, ((Wd.start (bs w)).up h.2).own0 _ _⟩
theorem enV_e (c : Cd) (first power : Int) (ys : List (Th × List St)) (cs : List Int) : (enV c first power ys cs).e = endE c first power ys cs := by
 unfold enV; split
 ·rename_i h; exact h.symm
 ·rfl
theorem refT_rng (l : List St) : -1 ≤ (refT l).1 ∧ (refT l).1 ≤ 1 := by
 unfold refT refP
 split
 all_goals (repeat' split)
 all_goals (dsimp only; omega)
theorem sco_rng (E : En) : -1 ≤ (scoF E).1 ∧ (scoF E).1 ≤ 1 := by
 unfold scoF cntF
 repeat' split
 all_goals first | exact refT_rng _ | (dsimp only; omega)
theorem enV_rng (c : Cd) (first power : Int) (ys : List (Th × List St)) (cs : List Int) : -1 ≤ (enV c first power ys cs).a ∧ (enV c first power ys cs).a ≤ 1 := by
 unfold enV; split
 ·exact sco_rng _
 ·dsimp only; omega
/-- The mirrored end; the end with the teams exchanged. -/
theorem vm_ok (c : Cd) (first power : Int) (l : List Tw) (cs : List Int) (hw : ∀ p ∈ l, ∀ s ∈ p.d.l, StW s) : (enV c first (-power) (l.map mirY) cs).e = (enV c first power (l.map twP) cs).e ∧ (enV c first (-power) (l.map mirY) cs).a = (enV c first power (l.map twP) cs).a ∧ (enV c first (-power) (l.map mirY) cs).b = (enV c first power (l.map twP) cs).b ∧ (enV c first (-power) (l.map mirY) cs).p = (enV c first power (l.map twP) cs).p ∧
  ((enV c first power (l.map twP) cs).e = 0 → chkB (enV c first power (l.map twP) cs).m = true ∧ (enV c first power (l.map twP) cs).m.map mirS = (enV c first (-power) (l.map mirY) cs).m) := by
 have hy : l.map mirY = (l.map twP).map fun y => (y.1, y.2.map mirW) := by rw [List.map_map]; rfl
 obtain ⟨h1, h2⟩ := end_mir c first power (l.map twP) cs (fun y hy s hs => by
  obtain ⟨p, hp, rfl⟩ := List.mem_map.1 hy
  exact hw p hp s hs)
 rw [← hy] at h1 h2
 have hp : decide (-power ≠ 0) = decide (power ≠ 0) := by rw [Bool.eq_iff_iff, decide_eq_true_eq, decide_eq_true_eq]; omega
 unfold enV
 rw [h1]
 by_cases e : endE c first power (l.map twP) cs = 0
 ·obtain ⟨k1, k2, k3⟩ := h2 e
  rw [if_pos e, if_pos e]
  exact ⟨rfl, by dsimp only; rw [k1], by dsimp only; rw [k1], hp, fun _ => ⟨k3, k2.symm⟩⟩
 ·rw [if_neg e, if_neg e]
  exact ⟨rfl, rfl, rfl, rfl, fun h => absurd h e⟩
theorem vx_ok (c : Cd) (first power : Int) (l : List Tw) (cs : List Int) (hx : ∀ p ∈ l, I64 p.x.team) (hw : ∀ p ∈ l, ∀ s ∈ p.d.l, StW s) : (enV c (1 - first) power (l.map excY) cs).e = (enV c first power (l.map twP) cs).e ∧
  ((enV c first power (l.map twP) cs).e = 0 → (enV c (1 - first) power (l.map excY) cs).a = excT (enV c first power (l.map twP) cs).a ∧ (enV c (1 - first) power (l.map excY) cs).b = (enV c first power (l.map twP) cs).b ∧ (enV c (1 - first) power (l.map excY) cs).p = (enV c first power (l.map twP) cs).p) := by
 have hy : l.map excY = (l.map twP).map fun y => (excX y.1, y.2.map excW) := by rw [List.map_map]; rfl
 obtain ⟨h1, h2⟩ := end_exc c first power (l.map twP) cs (fun y hy => by
  obtain ⟨p, hp, rfl⟩ := List.mem_map.1 hy
  exact hx p hp) (fun y hy s hs => by
  obtain ⟨p, hp, rfl⟩ := List.mem_map.1 hy
  exact hw p hp s hs)
 rw [← hy] at h1 h2
 unfold enV
 rw [h1]
 by_cases e : endE c first power (l.map twP) cs = 0
 ·have k1 := h2 e
  rw [if_pos e, if_pos e]
  exact ⟨rfl, fun _ => ⟨by dsimp only; rw [k1], by dsimp only; rw [k1], rfl⟩⟩
 ·rw [if_neg e, if_neg e]
  exact ⟨rfl, fun h => absurd h e⟩
abbrev awC : List St := [⟨0, 0, 0, 0⟩, ⟨0, 1, 0, 26214400⟩]
theorem aw_c : cntF awC = (0, 2, 0) := by decide +kernel
theorem aw_z : zoneR 0 (-196608000) = .tuple #[.int .i64 1, .int .i64 0] := by kernel_rfl
set_option maxRecDepth 100000 in
set_option maxHeartbeats 4000000 in
theorem awake_any (w : World) : Calls Try.prog 5 #[] w (Back (.bool true) w) := by
 refine J_enter (fun _ => False) (vs := []) (k := 38) (l := []) Try.func5 rfl rfl Try.ntmps5 rfl rfl (Wd.start _) ?_
 refine s7 ?_
 refine aP (rp_buildC (fun us => [.int .i64 0, .int .i64 0, .int .i64 0, .int .i64 0]) rfl rfl (fun w => by kernel_rfl)) ?_
 refine aP (rp_buildC (fun us => [.int .i64 0, us.getD 0 undef]) rfl rfl (fun w => by kernel_rfl)) ?_
 refine aP (rp_buildC (fun us => [.int .i64 0, us.getD 0 undef, us.getD 1 undef]) rfl rfl (fun w => by kernel_rfl)) ?_
 refine aW (ow_sliceC (vs := [_, _, _, _, _, _, _, _]) (ty := 49) rfl rfl (by rfl) rfl rfl (fun _ => by kernel_rfl)) (fun b10 hb10 => ?_)
 refine aCB (fun w hw => (Count_any awC _ w (cell_arr ET awC (hw.ok (cellB b10 [.int .i64 0, .int .i64 0, .int .i64 0, .int .i64 0, .int .i64 0, .int .i64 1, .int .i64 0, .int .i64 26214400] 49) (by repeat constructor)).1 rfl (by decide))).mono (fun _ _ h => by rw [aw_c] at h; exact h)) ?_
 refine s10 ?_
 refine kJ [(1, _), (2, _), (3, _)] ?_
 refine s1 ?_
 refine aP (rp_buildC (fun us => [.int .i64 0, us.getD 0 undef]) rfl rfl (fun w => by kernel_rfl)) ?_
 refine aCB (fun w hw => (Zone_any 0 (-196608000) w).mono (fun _ _ h => by rw [aw_z] at h; exact h)) ?_
 refine s8 ?_
 refine kJ [(1, _), (2, _), (3, _), (4, _), (5, _)] ?_
 refine s3 ?_
 refine aDecT ?_ rfl
 refine s3 ?_
 refine aDecT ?_ rfl
 refine s4 ?_
 refine aDecT ?_ rfl
 refine s4 ?_
 refine aDecT ?_ rfl
 refine s4 ?_
 refine aDecT ?_ rfl
 refine s5 ?_
 refine JR_one rfl (rr_tmp rfl) ?_
 intro w' hw
 exact ⟨rfl, hw.bel⟩
theorem mir_arr {l : List St} {w : World} {A : Option Addr} {c : Nat} (h : Arr 4 eT w (.slice A (l.map mirS).length c) (l.map mirS)) : Arr 4 eT w (.slice A l.length c) (l.map mirS) := by rw [List.length_map] at h; exact h
set_option maxRecDepth 100000 in
set_option maxHeartbeats 4000000 in
theorem Sides_law (c : Cd) (first power : Int) (l : List Tw) (A : Option Addr) (cap : Nat) (cs : List Int) (cA : Option Addr) (cc : Nat) (w : World) (hrow : Arr 6 eTw w (.slice A l.length cap) l) (hT : ∀ p ∈ l, TwW w p) (hcs : Arr 1 eI w (.slice cA cs.length cc) cs) (hTm : ∀ p ∈ l, I64 p.x.team) (hSt : ∀ p ∈ l, ∀ s ∈ p.d.l, StW s) : Calls Try.prog 3 #[Cdv c, .int .i64 first, .int .i64 power, .agg #[.slice A l.length cap, .slice cA cs.length cc]] w (Back (.bool true) w) := by
 obtain ⟨kf, kt, ks, ke, kp⟩ := c
 have hrow0 := hrow
 obtain ⟨A1, cap1, e0, -, ⟨hlhA, -⟩, hA⟩ := hrow
 obtain ⟨rfl, -, rfl⟩ : A = A1 ∧ True ∧ cap = cap1 := by injection e0 with e1 _ e3; exact ⟨e1, trivial, e3⟩
 clear e0
 refine J_enter (fun _ => False) (vs := [.agg #[.int .i64 kf, .int .i64 kt, .int .i64 ks, .int .i64 ke, .bool kp], .int .i64 first, .int .i64 power, .agg #[.slice A l.length cap, .slice cA cs.length cc]]) (k := 124) (l := [(0, .agg #[.int .i64 kf, .int .i64 kt, .int .i64 ks, .int .i64 ke, .bool kp]), (1, .int .i64 first), (2, .int .i64 power), (3, .agg #[.slice A l.length cap, .slice cA cs.length cc])]) Try.func3 rfl rfl Try.ntmps3 rfl rfl (Wd.start _) ?_
 refine s2 ?_
 refine aW (oX [_, _, _, _, _]) (fun b4 hb4 => ?_)
 refine aW (oX [_, _]) (fun b7 hb7 => ?_)
 refine s8 ?_
 refine aCB (fun w hw => far_any l A cap w (hrow0.up ETw hw.bel)) ?_
 refine JL_bool (fun h23 => ?_) (fun h23 => ?_)

 ·refine s10 ?_
  refine kJ [] ?_
  refine s1 ?_
  refine aCB (fun w hw => awake_any w) ?_
  refine s5 ?_
  refine JR_one rfl (rr_tmp rfl) ?_
  intro w' hw
  exact ⟨rfl, hw.bel⟩
 ·have hfar := far_no h23
  refine s5 ?_
  refine JL_dec (fun h28 => ?_) (fun h28 => ?_)
  ·refine s5 ?_
   refine kJ [] ?_
   refine s1 ?_
   refine aCB (fun w hw => awake_any w) ?_
   refine s5 ?_
   refine JR_one rfl (rr_tmp rfl) ?_
   intro w' hw
   exact ⟨rfl, hw.bel⟩
  ·refine s7 ?_
   refine kJ [(1, _), (2, _), (4, _), (7, _)] ?_
   refine s8 ?_
   refine aW (oR (fun w hw => (End_any (⟨kf, kt, ks, ke, kp⟩ : Cd) first power l A cap cs cA cc w (hrow0.up ETw hw.bel) (fun p hp => (hT p hp).up hw.bel) (hcs.up EI hw.bel)).mono (fun _ _ h => En_V h))) (fun t39 _ => ?_)
   refine s4 ?_
   refine aW oA (fun b9 hb9 => ?_)
   refine s6 ?_
   refine kJ [(1, _), (2, _), (4, _), (7, _), (9, _), (10, _), (11, _)] ?_
   refine xDx [0, 1, 2, 3, 4, 5, 7, 8] [] [0, 5, 8] [cellB b4 [.int .i64 kf, .int .i64 kt, .int .i64 ks, .int .i64 ke, .bool kp] 23, cellB b7 [.slice A l.length cap, .slice cA cs.length cc] 27] ?_
   refine s3 ?_
   refine dP rfl (pNegW rfl rfl) ?_
   refine s4 ?_
   refine dPair (i := 6) (j := 14) (by kernel_rfl) ?_ ?_
   ·refine St1_mk rfl wAny (oR (fun w hw => mirY_any l A cap w (hrow0.up ETw hw.bel) (fun p hp => (hT p hp).up hw.bel) hfar.2 hfar.1)) (by first | exact trivial | exact ⟨by kernel_rfl, .inl (rfl : waitsB _ [] _ = true)⟩ | exact ⟨by kernel_rfl, .inr ⟨rfl, by repeat constructor⟩⟩) (fun t50 ht50 => ?_)
    dsimp only [twI, List.cons_append, List.nil_append]
    have hq50 : t50.L.length ≤ 110 := by
     have h := congrArg List.length ht50.1
     rw [List.length_map, List.length_map] at h
     omega
    refine dOA [] ?_
    refine dPair (i := 9) (j := 14) (by kernel_rfl) ?_ ?_
    ·refine St1_mk rfl wAny (oR (fun w hw => (End_any (⟨kf, kt, ks, ke, kp⟩ : Cd) first (IntKind.i64.wrap (-power)) t50.L t50.A t50.c cs cA cc w (own_arr (A := t50.A) (c := t50.c) (ty := 42) (L := t50.L) ETw hw (by repeat constructor) (by omega)) (tw_W (hw.ok (grpB (t50.L.map rwT)) (by repeat constructor)).1 ht50) (hcs.up EI hw.bel)).mono (fun _ _ h => by rw [show t50.L.map twP = _ from ht50.1] at h; exact En_V h))) (by first | exact trivial | exact ⟨by kernel_rfl, .inl (rfl : waitsB _ [] _ = true)⟩ | exact ⟨by kernel_rfl, .inr ⟨rfl, by repeat constructor⟩⟩) (fun t53 _ => ?_)
     refine dOA [10, 11, 12, 13, 14, 15, 16, 17] ?_
     refine s4 ?_
     refine dW rfl oA (fun b12 hb12 => ?_)
     refine s7 ?_
     refine kJ [(1, _), (2, _), (4, _), (7, _), (9, _), (10, _), (11, _), (12, _), (13, _), (14, _)] ?_
     refine s3 ?_
     refine JL_dec (fun h58 => ?_) (fun h58 => ?_)
     ·refine s16 ?_
      refine kJ [] ?_
      refine s1 ?_
      refine aCB (fun w hw => awake_any w) ?_
      refine s5 ?_
      refine JR_one rfl (rr_tmp rfl) ?_
      intro w' hw
      exact ⟨rfl, hw.bel⟩
     ·refine s3 ?_
      refine JL_dec (fun h61 => ?_) (fun h61 => ?_)
      ·refine s13 ?_
       refine kJ [] ?_
       refine s1 ?_
       refine aCB (fun w hw => awake_any w) ?_
       refine s5 ?_
       refine JR_one rfl (rr_tmp rfl) ?_
       intro w' hw
       exact ⟨rfl, hw.bel⟩
      ·refine s4 ?_
       refine JL_dec (fun h65 => ?_) (fun h65 => ?_)
       ·refine s9 ?_
        refine kJ [] ?_
        refine s1 ?_
        refine aCB (fun w hw => awake_any w) ?_
        refine s5 ?_
        refine JR_one rfl (rr_tmp rfl) ?_
        intro w' hw
        exact ⟨rfl, hw.bel⟩
       ·refine s4 ?_
        refine JL_dec (fun h69 => ?_) (fun h69 => ?_)
        ·refine s5 ?_
         refine kJ [] ?_
         refine s1 ?_
         refine aCB (fun w hw => awake_any w) ?_
         refine s5 ?_
         refine JR_one rfl (rr_tmp rfl) ?_
         intro w' hw
         exact ⟨rfl, hw.bel⟩
        ·refine s8 ?_
         have hpm : (IntKind.i64.wrap (-power)) = -power := wrI_in (by omega)
         have hm := vm_ok (⟨kf, kt, ks, ke, kp⟩ : Cd) first power l cs hSt
         refine kJ [(1, _), (2, _), (4, _), (7, _), (9, _), (10, _), (11, _), (12, _), (13, _), (14, _)] ?_
         refine s4 ?_
         refine aDecF ?_ (fun h => h (by rw [hpm]; exact hm.1.symm))
         refine s3 ?_
         refine aP (pNeqLn rfl rfl rfl) ?_
         refine aBoolF ?_ (by rw [hpm, hm.2.1, hm.2.2.1, hm.2.2.2.1, eqLn_refl]; rfl)
         refine s7 ?_
         refine kJ [(1, _), (2, _), (4, _), (7, _), (9, _), (10, _), (11, _), (13, _)] ?_
         refine xDx [0, 1, 2, 3, 4, 5, 7, 8] [] [0, 5, 8] [cellB b4 [.int .i64 kf, .int .i64 kt, .int .i64 ks, .int .i64 ke, .bool kp] 23, cellB b7 [.slice A l.length cap, .slice cA cs.length cc] 27] ?_
         refine s8 ?_
         refine dPair (i := 6) (j := 14) (by kernel_rfl) ?_ ?_
         ·refine St1_mk rfl wAny (oR (fun w hw => excY_any l A cap w (hrow0.up ETw hw.bel) (fun p hp => (hT p hp).up hw.bel) hfar.2 hfar.1)) (by first | exact trivial | exact ⟨by kernel_rfl, .inl (rfl : waitsB _ [] _ = true)⟩ | exact ⟨by kernel_rfl, .inr ⟨rfl, by repeat constructor⟩⟩) (fun t87 ht87 => ?_)
          dsimp only [twI, List.cons_append, List.nil_append]
          have hq87 : t87.L.length ≤ 110 := by
           have h := congrArg List.length ht87.1
           rw [List.length_map, List.length_map] at h
           omega
          refine dOA [] ?_
          refine dPair (i := 9) (j := 14) (by kernel_rfl) ?_ ?_
          ·refine St1_mk rfl wAny (oR (fun w hw => (End_any (⟨kf, kt, ks, ke, kp⟩ : Cd) (1 - first) power t87.L t87.A t87.c cs cA cc w (own_arr (A := t87.A) (c := t87.c) (ty := 42) (L := t87.L) ETw hw (by repeat constructor) (by omega)) (tw_W (hw.ok (grpB (t87.L.map rwT)) (by repeat constructor)).1 ht87) (hcs.up EI hw.bel)).mono (fun _ _ h => by rw [show t87.L.map twP = _ from ht87.1] at h; exact En_V h))) (by first | exact trivial | exact ⟨by kernel_rfl, .inl (rfl : waitsB _ [] _ = true)⟩ | exact ⟨by kernel_rfl, .inr ⟨rfl, by repeat constructor⟩⟩) (fun t90 _ => ?_)
           refine dOA [10, 11, 12, 13, 14, 15, 16, 17] ?_
           refine s4 ?_
           refine dW rfl oA (fun b15 hb15 => ?_)
           refine s7 ?_
           have hvx := vx_ok (⟨kf, kt, ks, ke, kp⟩ : Cd) first power l cs hTm hSt
           refine kJ [(9, _), (10, _), (11, _), (13, _), (15, _), (17, _)] ?_
           refine s4 ?_
           refine aDecF ?_ (fun h => h hvx.1.symm)
           refine s7 ?_
           refine kJ [(9, _), (10, _), (11, _), (13, _), (15, _)] ?_
           refine s3 ?_
           refine JL_dec (fun h98 => ?_) (fun h98 => ?_)
           ·refine s4 ?_
            refine kJ [] ?_
            refine s1 ?_
            refine aCB (fun w hw => awake_any w) ?_
            refine s5 ?_
            refine JR_one rfl (rr_tmp rfl) ?_
            intro w' hw
            exact ⟨rfl, hw.bel⟩
           ·refine s6 ?_
            have he0 : (enV (⟨kf, kt, ks, ke, kp⟩ : Cd) first power (l.map twP) cs).e = 0 := by omega
            obtain ⟨hvc, hvm⟩ := hm.2.2.2.2 he0
            obtain ⟨hx1, hx2, hx3⟩ := hvx.2 he0
            have hrng := enV_rng (⟨kf, kt, ks, ke, kp⟩ : Cd) first power (l.map twP) cs
            have hvl := (chk_facts hvc).1
            have hvl2 : (enV (⟨kf, kt, ks, ke, kp⟩ : Cd) first (IntKind.i64.wrap (-power)) (l.map mirY) cs).m.length ≤ 16 := by rw [hpm, ← hvm, List.length_map]; exact hvl
            refine s2 ?_
            refine aW (oR (fun w hw => (Mirror_any (enV (⟨kf, kt, ks, ke, kp⟩ : Cd) first power (l.map twP) cs).m _ w (own_arr (A := t39.1) (c := t39.2) (ty := 49) (L := (enV (⟨kf, kt, ks, ke, kp⟩ : Cd) first power (l.map twP) cs).m) ET hw (by repeat constructor) (by omega))).mono (fun _ _ h => by unfold RetMi at h; rw [if_pos hvc] at h; exact h))) (fun t102 _ => ?_)
            refine s8 ?_
            refine kJ [(9, _), (13, _), (15, _), (18, _), (19, _)] ?_
            refine s2 ?_
            refine aW oA (fun b20 hb20 => ?_)
            refine s9 ?_
            refine JL_dec (fun h108 => ?_) (fun h108 => ?_)
            ·refine s3 ?_
             refine kJ [(13, _), (15, _), (18, _), (19, _), (20, _)] ?_
             refine s9 ?_
             have hln : eqLn (enV (⟨kf, kt, ks, ke, kp⟩ : Cd) (1 - first) power (l.map excY) cs).a (enV (⟨kf, kt, ks, ke, kp⟩ : Cd) (1 - first) power (l.map excY) cs).b (enV (⟨kf, kt, ks, ke, kp⟩ : Cd) (1 - first) power (l.map excY) cs).p (1 - (enV (⟨kf, kt, ks, ke, kp⟩ : Cd) first power (l.map twP) cs).a) (enV (⟨kf, kt, ks, ke, kp⟩ : Cd) first power (l.map twP) cs).b (enV (⟨kf, kt, ks, ke, kp⟩ : Cd) first power (l.map twP) cs).p = true := by rw [hx1, hx2, hx3]; unfold excT; rw [if_pos (by omega)]; exact eqLn_refl _ _ _
             refine kJ [(13, _), (15, _), (18, _), (19, _), (20, _)] ?_
             refine s3 ?_
             refine aDecT ?_ rfl
             refine s3 ?_
             refine aCB (fun w hw => refSame ((enV (⟨kf, kt, ks, ke, kp⟩ : Cd) first power (l.map twP) cs).m.map mirS) (enV (⟨kf, kt, ks, ke, kp⟩ : Cd) first (IntKind.i64.wrap (-power)) (l.map mirY) cs).m _ _ w (mir_arr (own_arr (A := t102.1) (c := t102.2) (ty := 49) (L := (enV (⟨kf, kt, ks, ke, kp⟩ : Cd) first power (l.map twP) cs).m.map mirS) ET hw (by rw [List.length_map]; repeat constructor) (by rw [List.length_map]; omega))) (own_arr (A := t53.1) (c := t53.2) (ty := 49) (L := (enV (⟨kf, kt, ks, ke, kp⟩ : Cd) first (IntKind.i64.wrap (-power)) (l.map mirY) cs).m) ET hw (by repeat constructor) (by omega))) ?_
             refine aDecT ?_ (by rw [hpm]; exact hvm)
             refine s4 ?_
             refine aP (pEqlLn rfl rfl rfl) ?_
             refine aBoolT ?_ hln
             refine s2 ?_
             refine aCB (fun w hw => awake_any w) ?_
             refine s5 ?_
             refine JR_one rfl (rr_tmp rfl) ?_
             intro w' hw
             exact ⟨rfl, hw.bel⟩
            ·refine s6 ?_
             have hln : eqLn (enV (⟨kf, kt, ks, ke, kp⟩ : Cd) (1 - first) power (l.map excY) cs).a (enV (⟨kf, kt, ks, ke, kp⟩ : Cd) (1 - first) power (l.map excY) cs).b (enV (⟨kf, kt, ks, ke, kp⟩ : Cd) (1 - first) power (l.map excY) cs).p (enV (⟨kf, kt, ks, ke, kp⟩ : Cd) first power (l.map twP) cs).a (enV (⟨kf, kt, ks, ke, kp⟩ : Cd) first power (l.map twP) cs).b (enV (⟨kf, kt, ks, ke, kp⟩ : Cd) first power (l.map twP) cs).p = true := by rw [hx1, hx2, hx3]; unfold excT; rw [if_neg (by omega)]; exact eqLn_refl _ _ _
             refine kJ [(13, _), (15, _), (18, _), (19, _), (20, _)] ?_
             refine s3 ?_
             refine aDecT ?_ rfl
             refine s3 ?_
             refine aCB (fun w hw => refSame ((enV (⟨kf, kt, ks, ke, kp⟩ : Cd) first power (l.map twP) cs).m.map mirS) (enV (⟨kf, kt, ks, ke, kp⟩ : Cd) first (IntKind.i64.wrap (-power)) (l.map mirY) cs).m _ _ w (mir_arr (own_arr (A := t102.1) (c := t102.2) (ty := 49) (L := (enV (⟨kf, kt, ks, ke, kp⟩ : Cd) first power (l.map twP) cs).m.map mirS) ET hw (by rw [List.length_map]; repeat constructor) (by rw [List.length_map]; omega))) (own_arr (A := t53.1) (c := t53.2) (ty := 49) (L := (enV (⟨kf, kt, ks, ke, kp⟩ : Cd) first (IntKind.i64.wrap (-power)) (l.map mirY) cs).m) ET hw (by repeat constructor) (by omega))) ?_
             refine aDecT ?_ (by rw [hpm]; exact hvm)
             refine s4 ?_
             refine aP (pEqlLn rfl rfl rfl) ?_
             refine aBoolT ?_ hln
             refine s2 ?_
             refine aCB (fun w hw => awake_any w) ?_
             refine s5 ?_
             refine JR_one rfl (rr_tmp rfl) ?_
             intro w' hw
             exact ⟨rfl, hw.bel⟩
          ·refine St1_mk rfl wAny oA (by first | exact trivial | exact ⟨by kernel_rfl, .inl (rfl : waitsB _ [] _ = true)⟩ | exact ⟨by kernel_rfl, .inr ⟨rfl, by repeat constructor⟩⟩) (fun b15 hb15 => ?_)
           refine dOA [9, 10, 11, 12, 13, 15, 16, 17] ?_
           refine dW rfl (oR (fun w hw => (End_any (⟨kf, kt, ks, ke, kp⟩ : Cd) (1 - first) power t87.L t87.A t87.c cs cA cc w (own_arr (A := t87.A) (c := t87.c) (ty := 42) (L := t87.L) ETw hw (by repeat constructor) (by omega)) (tw_W (hw.ok (grpB (t87.L.map rwT)) (by repeat constructor)).1 ht87) (hcs.up EI hw.bel)).mono (fun _ _ h => by rw [show t87.L.map twP = _ from ht87.1] at h; exact En_V h))) (fun t90 _ => ?_)
           refine s11 ?_
           have hvx := vx_ok (⟨kf, kt, ks, ke, kp⟩ : Cd) first power l cs hTm hSt
           refine kJ [(9, _), (10, _), (11, _), (13, _), (15, _), (17, _)] ?_
           refine s4 ?_
           refine aDecF ?_ (fun h => h hvx.1.symm)
           refine s7 ?_
           refine kJ [(9, _), (10, _), (11, _), (13, _), (15, _)] ?_
           refine s3 ?_
           refine JL_dec (fun h98 => ?_) (fun h98 => ?_)
           ·refine s4 ?_
            refine kJ [] ?_
            refine s1 ?_
            refine aCB (fun w hw => awake_any w) ?_
            refine s5 ?_
            refine JR_one rfl (rr_tmp rfl) ?_
            intro w' hw
            exact ⟨rfl, hw.bel⟩
           ·refine s6 ?_
            have he0 : (enV (⟨kf, kt, ks, ke, kp⟩ : Cd) first power (l.map twP) cs).e = 0 := by omega
            obtain ⟨hvc, hvm⟩ := hm.2.2.2.2 he0
            obtain ⟨hx1, hx2, hx3⟩ := hvx.2 he0
            have hrng := enV_rng (⟨kf, kt, ks, ke, kp⟩ : Cd) first power (l.map twP) cs
            have hvl := (chk_facts hvc).1
            have hvl2 : (enV (⟨kf, kt, ks, ke, kp⟩ : Cd) first (IntKind.i64.wrap (-power)) (l.map mirY) cs).m.length ≤ 16 := by rw [hpm, ← hvm, List.length_map]; exact hvl
            refine s2 ?_
            refine aW (oR (fun w hw => (Mirror_any (enV (⟨kf, kt, ks, ke, kp⟩ : Cd) first power (l.map twP) cs).m _ w (own_arr (A := t39.1) (c := t39.2) (ty := 49) (L := (enV (⟨kf, kt, ks, ke, kp⟩ : Cd) first power (l.map twP) cs).m) ET hw (by repeat constructor) (by omega))).mono (fun _ _ h => by unfold RetMi at h; rw [if_pos hvc] at h; exact h))) (fun t102 _ => ?_)
            refine s8 ?_
            refine kJ [(9, _), (13, _), (15, _), (18, _), (19, _)] ?_
            refine s2 ?_
            refine aW oA (fun b20 hb20 => ?_)
            refine s9 ?_
            refine JL_dec (fun h108 => ?_) (fun h108 => ?_)
            ·refine s3 ?_
             refine kJ [(13, _), (15, _), (18, _), (19, _), (20, _)] ?_
             refine s9 ?_
             have hln : eqLn (enV (⟨kf, kt, ks, ke, kp⟩ : Cd) (1 - first) power (l.map excY) cs).a (enV (⟨kf, kt, ks, ke, kp⟩ : Cd) (1 - first) power (l.map excY) cs).b (enV (⟨kf, kt, ks, ke, kp⟩ : Cd) (1 - first) power (l.map excY) cs).p (1 - (enV (⟨kf, kt, ks, ke, kp⟩ : Cd) first power (l.map twP) cs).a) (enV (⟨kf, kt, ks, ke, kp⟩ : Cd) first power (l.map twP) cs).b (enV (⟨kf, kt, ks, ke, kp⟩ : Cd) first power (l.map twP) cs).p = true := by rw [hx1, hx2, hx3]; unfold excT; rw [if_pos (by omega)]; exact eqLn_refl _ _ _
             refine kJ [(13, _), (15, _), (18, _), (19, _), (20, _)] ?_
             refine s3 ?_
             refine aDecT ?_ rfl
             refine s3 ?_
             refine aCB (fun w hw => refSame ((enV (⟨kf, kt, ks, ke, kp⟩ : Cd) first power (l.map twP) cs).m.map mirS) (enV (⟨kf, kt, ks, ke, kp⟩ : Cd) first (IntKind.i64.wrap (-power)) (l.map mirY) cs).m _ _ w (mir_arr (own_arr (A := t102.1) (c := t102.2) (ty := 49) (L := (enV (⟨kf, kt, ks, ke, kp⟩ : Cd) first power (l.map twP) cs).m.map mirS) ET hw (by rw [List.length_map]; repeat constructor) (by rw [List.length_map]; omega))) (own_arr (A := t53.1) (c := t53.2) (ty := 49) (L := (enV (⟨kf, kt, ks, ke, kp⟩ : Cd) first (IntKind.i64.wrap (-power)) (l.map mirY) cs).m) ET hw (by repeat constructor) (by omega))) ?_
             refine aDecT ?_ (by rw [hpm]; exact hvm)
             refine s4 ?_
             refine aP (pEqlLn rfl rfl rfl) ?_
             refine aBoolT ?_ hln
             refine s2 ?_
             refine aCB (fun w hw => awake_any w) ?_
             refine s5 ?_
             refine JR_one rfl (rr_tmp rfl) ?_
             intro w' hw
             exact ⟨rfl, hw.bel⟩
            ·refine s6 ?_
             have hln : eqLn (enV (⟨kf, kt, ks, ke, kp⟩ : Cd) (1 - first) power (l.map excY) cs).a (enV (⟨kf, kt, ks, ke, kp⟩ : Cd) (1 - first) power (l.map excY) cs).b (enV (⟨kf, kt, ks, ke, kp⟩ : Cd) (1 - first) power (l.map excY) cs).p (enV (⟨kf, kt, ks, ke, kp⟩ : Cd) first power (l.map twP) cs).a (enV (⟨kf, kt, ks, ke, kp⟩ : Cd) first power (l.map twP) cs).b (enV (⟨kf, kt, ks, ke, kp⟩ : Cd) first power (l.map twP) cs).p = true := by rw [hx1, hx2, hx3]; unfold excT; rw [if_neg (by omega)]; exact eqLn_refl _ _ _
             refine kJ [(13, _), (15, _), (18, _), (19, _), (20, _)] ?_
             refine s3 ?_
             refine aDecT ?_ rfl
             refine s3 ?_
             refine aCB (fun w hw => refSame ((enV (⟨kf, kt, ks, ke, kp⟩ : Cd) first power (l.map twP) cs).m.map mirS) (enV (⟨kf, kt, ks, ke, kp⟩ : Cd) first (IntKind.i64.wrap (-power)) (l.map mirY) cs).m _ _ w (mir_arr (own_arr (A := t102.1) (c := t102.2) (ty := 49) (L := (enV (⟨kf, kt, ks, ke, kp⟩ : Cd) first power (l.map twP) cs).m.map mirS) ET hw (by rw [List.length_map]; repeat constructor) (by rw [List.length_map]; omega))) (own_arr (A := t53.1) (c := t53.2) (ty := 49) (L := (enV (⟨kf, kt, ks, ke, kp⟩ : Cd) first (IntKind.i64.wrap (-power)) (l.map mirY) cs).m) ET hw (by repeat constructor) (by omega))) ?_
             refine aDecT ?_ (by rw [hpm]; exact hvm)
             refine s4 ?_
             refine aP (pEqlLn rfl rfl rfl) ?_
             refine aBoolT ?_ hln
             refine s2 ?_
             refine aCB (fun w hw => awake_any w) ?_
             refine s5 ?_
             refine JR_one rfl (rr_tmp rfl) ?_
             intro w' hw
             exact ⟨rfl, hw.bel⟩
         ·refine St1_mk rfl wAny oA (by first | exact trivial | exact ⟨by kernel_rfl, .inl (rfl : waitsB _ [] _ = true)⟩ | exact ⟨by kernel_rfl, .inr ⟨rfl, by repeat constructor⟩⟩) (fun b15 hb15 => ?_)
          refine dOA [6, 9, 10, 11, 12, 13, 15, 16, 17] ?_
          refine dW rfl (oR (fun w hw => excY_any l A cap w (hrow0.up ETw hw.bel) (fun p hp => (hT p hp).up hw.bel) hfar.2 hfar.1)) (fun t87 ht87 => ?_)
          dsimp only [twI, List.cons_append, List.nil_append]
          have hq87 : t87.L.length ≤ 110 := by
           have h := congrArg List.length ht87.1
           rw [List.length_map, List.length_map] at h
           omega
          refine dW rfl (oR (fun w hw => (End_any (⟨kf, kt, ks, ke, kp⟩ : Cd) (1 - first) power t87.L t87.A t87.c cs cA cc w (own_arr (A := t87.A) (c := t87.c) (ty := 42) (L := t87.L) ETw hw (by repeat constructor) (by omega)) (tw_W (hw.ok (grpB (t87.L.map rwT)) (by repeat constructor)).1 ht87) (hcs.up EI hw.bel)).mono (fun _ _ h => by rw [show t87.L.map twP = _ from ht87.1] at h; exact En_V h))) (fun t90 _ => ?_)
          refine s11 ?_
          have hvx := vx_ok (⟨kf, kt, ks, ke, kp⟩ : Cd) first power l cs hTm hSt
          refine kJ [(9, _), (10, _), (11, _), (13, _), (15, _), (17, _)] ?_
          refine s4 ?_
          refine aDecF ?_ (fun h => h hvx.1.symm)
          refine s7 ?_
          refine kJ [(9, _), (10, _), (11, _), (13, _), (15, _)] ?_
          refine s3 ?_
          refine JL_dec (fun h98 => ?_) (fun h98 => ?_)
          ·refine s4 ?_
           refine kJ [] ?_
           refine s1 ?_
           refine aCB (fun w hw => awake_any w) ?_
           refine s5 ?_
           refine JR_one rfl (rr_tmp rfl) ?_
           intro w' hw
           exact ⟨rfl, hw.bel⟩
          ·refine s6 ?_
           have he0 : (enV (⟨kf, kt, ks, ke, kp⟩ : Cd) first power (l.map twP) cs).e = 0 := by omega
           obtain ⟨hvc, hvm⟩ := hm.2.2.2.2 he0
           obtain ⟨hx1, hx2, hx3⟩ := hvx.2 he0
           have hrng := enV_rng (⟨kf, kt, ks, ke, kp⟩ : Cd) first power (l.map twP) cs
           have hvl := (chk_facts hvc).1
           have hvl2 : (enV (⟨kf, kt, ks, ke, kp⟩ : Cd) first (IntKind.i64.wrap (-power)) (l.map mirY) cs).m.length ≤ 16 := by rw [hpm, ← hvm, List.length_map]; exact hvl
           refine s2 ?_
           refine aW (oR (fun w hw => (Mirror_any (enV (⟨kf, kt, ks, ke, kp⟩ : Cd) first power (l.map twP) cs).m _ w (own_arr (A := t39.1) (c := t39.2) (ty := 49) (L := (enV (⟨kf, kt, ks, ke, kp⟩ : Cd) first power (l.map twP) cs).m) ET hw (by repeat constructor) (by omega))).mono (fun _ _ h => by unfold RetMi at h; rw [if_pos hvc] at h; exact h))) (fun t102 _ => ?_)
           refine s8 ?_
           refine kJ [(9, _), (13, _), (15, _), (18, _), (19, _)] ?_
           refine s2 ?_
           refine aW oA (fun b20 hb20 => ?_)
           refine s9 ?_
           refine JL_dec (fun h108 => ?_) (fun h108 => ?_)
           ·refine s3 ?_
            refine kJ [(13, _), (15, _), (18, _), (19, _), (20, _)] ?_
            refine s9 ?_
            have hln : eqLn (enV (⟨kf, kt, ks, ke, kp⟩ : Cd) (1 - first) power (l.map excY) cs).a (enV (⟨kf, kt, ks, ke, kp⟩ : Cd) (1 - first) power (l.map excY) cs).b (enV (⟨kf, kt, ks, ke, kp⟩ : Cd) (1 - first) power (l.map excY) cs).p (1 - (enV (⟨kf, kt, ks, ke, kp⟩ : Cd) first power (l.map twP) cs).a) (enV (⟨kf, kt, ks, ke, kp⟩ : Cd) first power (l.map twP) cs).b (enV (⟨kf, kt, ks, ke, kp⟩ : Cd) first power (l.map twP) cs).p = true := by rw [hx1, hx2, hx3]; unfold excT; rw [if_pos (by omega)]; exact eqLn_refl _ _ _
            refine kJ [(13, _), (15, _), (18, _), (19, _), (20, _)] ?_
            refine s3 ?_
            refine aDecT ?_ rfl
            refine s3 ?_
            refine aCB (fun w hw => refSame ((enV (⟨kf, kt, ks, ke, kp⟩ : Cd) first power (l.map twP) cs).m.map mirS) (enV (⟨kf, kt, ks, ke, kp⟩ : Cd) first (IntKind.i64.wrap (-power)) (l.map mirY) cs).m _ _ w (mir_arr (own_arr (A := t102.1) (c := t102.2) (ty := 49) (L := (enV (⟨kf, kt, ks, ke, kp⟩ : Cd) first power (l.map twP) cs).m.map mirS) ET hw (by rw [List.length_map]; repeat constructor) (by rw [List.length_map]; omega))) (own_arr (A := t53.1) (c := t53.2) (ty := 49) (L := (enV (⟨kf, kt, ks, ke, kp⟩ : Cd) first (IntKind.i64.wrap (-power)) (l.map mirY) cs).m) ET hw (by repeat constructor) (by omega))) ?_
            refine aDecT ?_ (by rw [hpm]; exact hvm)
            refine s4 ?_
            refine aP (pEqlLn rfl rfl rfl) ?_
            refine aBoolT ?_ hln
            refine s2 ?_
            refine aCB (fun w hw => awake_any w) ?_
            refine s5 ?_
            refine JR_one rfl (rr_tmp rfl) ?_
            intro w' hw
            exact ⟨rfl, hw.bel⟩
           ·refine s6 ?_
            have hln : eqLn (enV (⟨kf, kt, ks, ke, kp⟩ : Cd) (1 - first) power (l.map excY) cs).a (enV (⟨kf, kt, ks, ke, kp⟩ : Cd) (1 - first) power (l.map excY) cs).b (enV (⟨kf, kt, ks, ke, kp⟩ : Cd) (1 - first) power (l.map excY) cs).p (enV (⟨kf, kt, ks, ke, kp⟩ : Cd) first power (l.map twP) cs).a (enV (⟨kf, kt, ks, ke, kp⟩ : Cd) first power (l.map twP) cs).b (enV (⟨kf, kt, ks, ke, kp⟩ : Cd) first power (l.map twP) cs).p = true := by rw [hx1, hx2, hx3]; unfold excT; rw [if_neg (by omega)]; exact eqLn_refl _ _ _
            refine kJ [(13, _), (15, _), (18, _), (19, _), (20, _)] ?_
            refine s3 ?_
            refine aDecT ?_ rfl
            refine s3 ?_
            refine aCB (fun w hw => refSame ((enV (⟨kf, kt, ks, ke, kp⟩ : Cd) first power (l.map twP) cs).m.map mirS) (enV (⟨kf, kt, ks, ke, kp⟩ : Cd) first (IntKind.i64.wrap (-power)) (l.map mirY) cs).m _ _ w (mir_arr (own_arr (A := t102.1) (c := t102.2) (ty := 49) (L := (enV (⟨kf, kt, ks, ke, kp⟩ : Cd) first power (l.map twP) cs).m.map mirS) ET hw (by rw [List.length_map]; repeat constructor) (by rw [List.length_map]; omega))) (own_arr (A := t53.1) (c := t53.2) (ty := 49) (L := (enV (⟨kf, kt, ks, ke, kp⟩ : Cd) first (IntKind.i64.wrap (-power)) (l.map mirY) cs).m) ET hw (by repeat constructor) (by omega))) ?_
            refine aDecT ?_ (by rw [hpm]; exact hvm)
            refine s4 ?_
            refine aP (pEqlLn rfl rfl rfl) ?_
            refine aBoolT ?_ hln
            refine s2 ?_
            refine aCB (fun w hw => awake_any w) ?_
            refine s5 ?_
            refine JR_one rfl (rr_tmp rfl) ?_
            intro w' hw
            exact ⟨rfl, hw.bel⟩
    ·refine St1_mk rfl wAny oA (by first | exact trivial | exact ⟨by kernel_rfl, .inl (rfl : waitsB _ [] _ = true)⟩ | exact ⟨by kernel_rfl, .inr ⟨rfl, by repeat constructor⟩⟩) (fun b12 hb12 => ?_)
     refine dOA [9, 10, 11, 12, 13, 15, 16, 17] ?_
     refine dW rfl (oR (fun w hw => (End_any (⟨kf, kt, ks, ke, kp⟩ : Cd) first (IntKind.i64.wrap (-power)) t50.L t50.A t50.c cs cA cc w (own_arr (A := t50.A) (c := t50.c) (ty := 42) (L := t50.L) ETw hw (by repeat constructor) (by omega)) (tw_W (hw.ok (grpB (t50.L.map rwT)) (by repeat constructor)).1 ht50) (hcs.up EI hw.bel)).mono (fun _ _ h => by rw [show t50.L.map twP = _ from ht50.1] at h; exact En_V h))) (fun t53 _ => ?_)
     refine s11 ?_
     refine kJ [(1, _), (2, _), (4, _), (7, _), (9, _), (10, _), (11, _), (12, _), (13, _), (14, _)] ?_
     refine s3 ?_
     refine JL_dec (fun h58 => ?_) (fun h58 => ?_)
     ·refine s16 ?_
      refine kJ [] ?_
      refine s1 ?_
      refine aCB (fun w hw => awake_any w) ?_
      refine s5 ?_
      refine JR_one rfl (rr_tmp rfl) ?_
      intro w' hw
      exact ⟨rfl, hw.bel⟩
     ·refine s3 ?_
      refine JL_dec (fun h61 => ?_) (fun h61 => ?_)
      ·refine s13 ?_
       refine kJ [] ?_
       refine s1 ?_
       refine aCB (fun w hw => awake_any w) ?_
       refine s5 ?_
       refine JR_one rfl (rr_tmp rfl) ?_
       intro w' hw
       exact ⟨rfl, hw.bel⟩
      ·refine s4 ?_
       refine JL_dec (fun h65 => ?_) (fun h65 => ?_)
       ·refine s9 ?_
        refine kJ [] ?_
        refine s1 ?_
        refine aCB (fun w hw => awake_any w) ?_
        refine s5 ?_
        refine JR_one rfl (rr_tmp rfl) ?_
        intro w' hw
        exact ⟨rfl, hw.bel⟩
       ·refine s4 ?_
        refine JL_dec (fun h69 => ?_) (fun h69 => ?_)
        ·refine s5 ?_
         refine kJ [] ?_
         refine s1 ?_
         refine aCB (fun w hw => awake_any w) ?_
         refine s5 ?_
         refine JR_one rfl (rr_tmp rfl) ?_
         intro w' hw
         exact ⟨rfl, hw.bel⟩
        ·refine s8 ?_
         have hpm : (IntKind.i64.wrap (-power)) = -power := wrI_in (by omega)
         have hm := vm_ok (⟨kf, kt, ks, ke, kp⟩ : Cd) first power l cs hSt
         refine kJ [(1, _), (2, _), (4, _), (7, _), (9, _), (10, _), (11, _), (12, _), (13, _), (14, _)] ?_
         refine s4 ?_
         refine aDecF ?_ (fun h => h (by rw [hpm]; exact hm.1.symm))
         refine s3 ?_
         refine aP (pNeqLn rfl rfl rfl) ?_
         refine aBoolF ?_ (by rw [hpm, hm.2.1, hm.2.2.1, hm.2.2.2.1, eqLn_refl]; rfl)
         refine s7 ?_
         refine kJ [(1, _), (2, _), (4, _), (7, _), (9, _), (10, _), (11, _), (13, _)] ?_
         refine xDx [0, 1, 2, 3, 4, 5, 7, 8] [] [0, 5, 8] [cellB b4 [.int .i64 kf, .int .i64 kt, .int .i64 ks, .int .i64 ke, .bool kp] 23, cellB b7 [.slice A l.length cap, .slice cA cs.length cc] 27] ?_
         refine s8 ?_
         refine dPair (i := 6) (j := 14) (by kernel_rfl) ?_ ?_
         ·refine St1_mk rfl wAny (oR (fun w hw => excY_any l A cap w (hrow0.up ETw hw.bel) (fun p hp => (hT p hp).up hw.bel) hfar.2 hfar.1)) (by first | exact trivial | exact ⟨by kernel_rfl, .inl (rfl : waitsB _ [] _ = true)⟩ | exact ⟨by kernel_rfl, .inr ⟨rfl, by repeat constructor⟩⟩) (fun t87 ht87 => ?_)
          dsimp only [twI, List.cons_append, List.nil_append]
          have hq87 : t87.L.length ≤ 110 := by
           have h := congrArg List.length ht87.1
           rw [List.length_map, List.length_map] at h
           omega
          refine dOA [] ?_
          refine dPair (i := 9) (j := 14) (by kernel_rfl) ?_ ?_
          ·refine St1_mk rfl wAny (oR (fun w hw => (End_any (⟨kf, kt, ks, ke, kp⟩ : Cd) (1 - first) power t87.L t87.A t87.c cs cA cc w (own_arr (A := t87.A) (c := t87.c) (ty := 42) (L := t87.L) ETw hw (by repeat constructor) (by omega)) (tw_W (hw.ok (grpB (t87.L.map rwT)) (by repeat constructor)).1 ht87) (hcs.up EI hw.bel)).mono (fun _ _ h => by rw [show t87.L.map twP = _ from ht87.1] at h; exact En_V h))) (by first | exact trivial | exact ⟨by kernel_rfl, .inl (rfl : waitsB _ [] _ = true)⟩ | exact ⟨by kernel_rfl, .inr ⟨rfl, by repeat constructor⟩⟩) (fun t90 _ => ?_)
           refine dOA [10, 11, 12, 13, 14, 15, 16, 17] ?_
           refine s4 ?_
           refine dW rfl oA (fun b15 hb15 => ?_)
           refine s7 ?_
           have hvx := vx_ok (⟨kf, kt, ks, ke, kp⟩ : Cd) first power l cs hTm hSt
           refine kJ [(9, _), (10, _), (11, _), (13, _), (15, _), (17, _)] ?_
           refine s4 ?_
           refine aDecF ?_ (fun h => h hvx.1.symm)
           refine s7 ?_
           refine kJ [(9, _), (10, _), (11, _), (13, _), (15, _)] ?_
           refine s3 ?_
           refine JL_dec (fun h98 => ?_) (fun h98 => ?_)
           ·refine s4 ?_
            refine kJ [] ?_
            refine s1 ?_
            refine aCB (fun w hw => awake_any w) ?_
            refine s5 ?_
            refine JR_one rfl (rr_tmp rfl) ?_
            intro w' hw
            exact ⟨rfl, hw.bel⟩
           ·refine s6 ?_
            have he0 : (enV (⟨kf, kt, ks, ke, kp⟩ : Cd) first power (l.map twP) cs).e = 0 := by omega
            obtain ⟨hvc, hvm⟩ := hm.2.2.2.2 he0
            obtain ⟨hx1, hx2, hx3⟩ := hvx.2 he0
            have hrng := enV_rng (⟨kf, kt, ks, ke, kp⟩ : Cd) first power (l.map twP) cs
            have hvl := (chk_facts hvc).1
            have hvl2 : (enV (⟨kf, kt, ks, ke, kp⟩ : Cd) first (IntKind.i64.wrap (-power)) (l.map mirY) cs).m.length ≤ 16 := by rw [hpm, ← hvm, List.length_map]; exact hvl
            refine s2 ?_
            refine aW (oR (fun w hw => (Mirror_any (enV (⟨kf, kt, ks, ke, kp⟩ : Cd) first power (l.map twP) cs).m _ w (own_arr (A := t39.1) (c := t39.2) (ty := 49) (L := (enV (⟨kf, kt, ks, ke, kp⟩ : Cd) first power (l.map twP) cs).m) ET hw (by repeat constructor) (by omega))).mono (fun _ _ h => by unfold RetMi at h; rw [if_pos hvc] at h; exact h))) (fun t102 _ => ?_)
            refine s8 ?_
            refine kJ [(9, _), (13, _), (15, _), (18, _), (19, _)] ?_
            refine s2 ?_
            refine aW oA (fun b20 hb20 => ?_)
            refine s9 ?_
            refine JL_dec (fun h108 => ?_) (fun h108 => ?_)
            ·refine s3 ?_
             refine kJ [(13, _), (15, _), (18, _), (19, _), (20, _)] ?_
             refine s9 ?_
             have hln : eqLn (enV (⟨kf, kt, ks, ke, kp⟩ : Cd) (1 - first) power (l.map excY) cs).a (enV (⟨kf, kt, ks, ke, kp⟩ : Cd) (1 - first) power (l.map excY) cs).b (enV (⟨kf, kt, ks, ke, kp⟩ : Cd) (1 - first) power (l.map excY) cs).p (1 - (enV (⟨kf, kt, ks, ke, kp⟩ : Cd) first power (l.map twP) cs).a) (enV (⟨kf, kt, ks, ke, kp⟩ : Cd) first power (l.map twP) cs).b (enV (⟨kf, kt, ks, ke, kp⟩ : Cd) first power (l.map twP) cs).p = true := by rw [hx1, hx2, hx3]; unfold excT; rw [if_pos (by omega)]; exact eqLn_refl _ _ _
             refine kJ [(13, _), (15, _), (18, _), (19, _), (20, _)] ?_
             refine s3 ?_
             refine aDecT ?_ rfl
             refine s3 ?_
             refine aCB (fun w hw => refSame ((enV (⟨kf, kt, ks, ke, kp⟩ : Cd) first power (l.map twP) cs).m.map mirS) (enV (⟨kf, kt, ks, ke, kp⟩ : Cd) first (IntKind.i64.wrap (-power)) (l.map mirY) cs).m _ _ w (mir_arr (own_arr (A := t102.1) (c := t102.2) (ty := 49) (L := (enV (⟨kf, kt, ks, ke, kp⟩ : Cd) first power (l.map twP) cs).m.map mirS) ET hw (by rw [List.length_map]; repeat constructor) (by rw [List.length_map]; omega))) (own_arr (A := t53.1) (c := t53.2) (ty := 49) (L := (enV (⟨kf, kt, ks, ke, kp⟩ : Cd) first (IntKind.i64.wrap (-power)) (l.map mirY) cs).m) ET hw (by repeat constructor) (by omega))) ?_
             refine aDecT ?_ (by rw [hpm]; exact hvm)
             refine s4 ?_
             refine aP (pEqlLn rfl rfl rfl) ?_
             refine aBoolT ?_ hln
             refine s2 ?_
             refine aCB (fun w hw => awake_any w) ?_
             refine s5 ?_
             refine JR_one rfl (rr_tmp rfl) ?_
             intro w' hw
             exact ⟨rfl, hw.bel⟩
            ·refine s6 ?_
             have hln : eqLn (enV (⟨kf, kt, ks, ke, kp⟩ : Cd) (1 - first) power (l.map excY) cs).a (enV (⟨kf, kt, ks, ke, kp⟩ : Cd) (1 - first) power (l.map excY) cs).b (enV (⟨kf, kt, ks, ke, kp⟩ : Cd) (1 - first) power (l.map excY) cs).p (enV (⟨kf, kt, ks, ke, kp⟩ : Cd) first power (l.map twP) cs).a (enV (⟨kf, kt, ks, ke, kp⟩ : Cd) first power (l.map twP) cs).b (enV (⟨kf, kt, ks, ke, kp⟩ : Cd) first power (l.map twP) cs).p = true := by rw [hx1, hx2, hx3]; unfold excT; rw [if_neg (by omega)]; exact eqLn_refl _ _ _
             refine kJ [(13, _), (15, _), (18, _), (19, _), (20, _)] ?_
             refine s3 ?_
             refine aDecT ?_ rfl
             refine s3 ?_
             refine aCB (fun w hw => refSame ((enV (⟨kf, kt, ks, ke, kp⟩ : Cd) first power (l.map twP) cs).m.map mirS) (enV (⟨kf, kt, ks, ke, kp⟩ : Cd) first (IntKind.i64.wrap (-power)) (l.map mirY) cs).m _ _ w (mir_arr (own_arr (A := t102.1) (c := t102.2) (ty := 49) (L := (enV (⟨kf, kt, ks, ke, kp⟩ : Cd) first power (l.map twP) cs).m.map mirS) ET hw (by rw [List.length_map]; repeat constructor) (by rw [List.length_map]; omega))) (own_arr (A := t53.1) (c := t53.2) (ty := 49) (L := (enV (⟨kf, kt, ks, ke, kp⟩ : Cd) first (IntKind.i64.wrap (-power)) (l.map mirY) cs).m) ET hw (by repeat constructor) (by omega))) ?_
             refine aDecT ?_ (by rw [hpm]; exact hvm)
             refine s4 ?_
             refine aP (pEqlLn rfl rfl rfl) ?_
             refine aBoolT ?_ hln
             refine s2 ?_
             refine aCB (fun w hw => awake_any w) ?_
             refine s5 ?_
             refine JR_one rfl (rr_tmp rfl) ?_
             intro w' hw
             exact ⟨rfl, hw.bel⟩
          ·refine St1_mk rfl wAny oA (by first | exact trivial | exact ⟨by kernel_rfl, .inl (rfl : waitsB _ [] _ = true)⟩ | exact ⟨by kernel_rfl, .inr ⟨rfl, by repeat constructor⟩⟩) (fun b15 hb15 => ?_)
           refine dOA [9, 10, 11, 12, 13, 15, 16, 17] ?_
           refine dW rfl (oR (fun w hw => (End_any (⟨kf, kt, ks, ke, kp⟩ : Cd) (1 - first) power t87.L t87.A t87.c cs cA cc w (own_arr (A := t87.A) (c := t87.c) (ty := 42) (L := t87.L) ETw hw (by repeat constructor) (by omega)) (tw_W (hw.ok (grpB (t87.L.map rwT)) (by repeat constructor)).1 ht87) (hcs.up EI hw.bel)).mono (fun _ _ h => by rw [show t87.L.map twP = _ from ht87.1] at h; exact En_V h))) (fun t90 _ => ?_)
           refine s11 ?_
           have hvx := vx_ok (⟨kf, kt, ks, ke, kp⟩ : Cd) first power l cs hTm hSt
           refine kJ [(9, _), (10, _), (11, _), (13, _), (15, _), (17, _)] ?_
           refine s4 ?_
           refine aDecF ?_ (fun h => h hvx.1.symm)
           refine s7 ?_
           refine kJ [(9, _), (10, _), (11, _), (13, _), (15, _)] ?_
           refine s3 ?_
           refine JL_dec (fun h98 => ?_) (fun h98 => ?_)
           ·refine s4 ?_
            refine kJ [] ?_
            refine s1 ?_
            refine aCB (fun w hw => awake_any w) ?_
            refine s5 ?_
            refine JR_one rfl (rr_tmp rfl) ?_
            intro w' hw
            exact ⟨rfl, hw.bel⟩
           ·refine s6 ?_
            have he0 : (enV (⟨kf, kt, ks, ke, kp⟩ : Cd) first power (l.map twP) cs).e = 0 := by omega
            obtain ⟨hvc, hvm⟩ := hm.2.2.2.2 he0
            obtain ⟨hx1, hx2, hx3⟩ := hvx.2 he0
            have hrng := enV_rng (⟨kf, kt, ks, ke, kp⟩ : Cd) first power (l.map twP) cs
            have hvl := (chk_facts hvc).1
            have hvl2 : (enV (⟨kf, kt, ks, ke, kp⟩ : Cd) first (IntKind.i64.wrap (-power)) (l.map mirY) cs).m.length ≤ 16 := by rw [hpm, ← hvm, List.length_map]; exact hvl
            refine s2 ?_
            refine aW (oR (fun w hw => (Mirror_any (enV (⟨kf, kt, ks, ke, kp⟩ : Cd) first power (l.map twP) cs).m _ w (own_arr (A := t39.1) (c := t39.2) (ty := 49) (L := (enV (⟨kf, kt, ks, ke, kp⟩ : Cd) first power (l.map twP) cs).m) ET hw (by repeat constructor) (by omega))).mono (fun _ _ h => by unfold RetMi at h; rw [if_pos hvc] at h; exact h))) (fun t102 _ => ?_)
            refine s8 ?_
            refine kJ [(9, _), (13, _), (15, _), (18, _), (19, _)] ?_
            refine s2 ?_
            refine aW oA (fun b20 hb20 => ?_)
            refine s9 ?_
            refine JL_dec (fun h108 => ?_) (fun h108 => ?_)
            ·refine s3 ?_
             refine kJ [(13, _), (15, _), (18, _), (19, _), (20, _)] ?_
             refine s9 ?_
             have hln : eqLn (enV (⟨kf, kt, ks, ke, kp⟩ : Cd) (1 - first) power (l.map excY) cs).a (enV (⟨kf, kt, ks, ke, kp⟩ : Cd) (1 - first) power (l.map excY) cs).b (enV (⟨kf, kt, ks, ke, kp⟩ : Cd) (1 - first) power (l.map excY) cs).p (1 - (enV (⟨kf, kt, ks, ke, kp⟩ : Cd) first power (l.map twP) cs).a) (enV (⟨kf, kt, ks, ke, kp⟩ : Cd) first power (l.map twP) cs).b (enV (⟨kf, kt, ks, ke, kp⟩ : Cd) first power (l.map twP) cs).p = true := by rw [hx1, hx2, hx3]; unfold excT; rw [if_pos (by omega)]; exact eqLn_refl _ _ _
             refine kJ [(13, _), (15, _), (18, _), (19, _), (20, _)] ?_
             refine s3 ?_
             refine aDecT ?_ rfl
             refine s3 ?_
             refine aCB (fun w hw => refSame ((enV (⟨kf, kt, ks, ke, kp⟩ : Cd) first power (l.map twP) cs).m.map mirS) (enV (⟨kf, kt, ks, ke, kp⟩ : Cd) first (IntKind.i64.wrap (-power)) (l.map mirY) cs).m _ _ w (mir_arr (own_arr (A := t102.1) (c := t102.2) (ty := 49) (L := (enV (⟨kf, kt, ks, ke, kp⟩ : Cd) first power (l.map twP) cs).m.map mirS) ET hw (by rw [List.length_map]; repeat constructor) (by rw [List.length_map]; omega))) (own_arr (A := t53.1) (c := t53.2) (ty := 49) (L := (enV (⟨kf, kt, ks, ke, kp⟩ : Cd) first (IntKind.i64.wrap (-power)) (l.map mirY) cs).m) ET hw (by repeat constructor) (by omega))) ?_
             refine aDecT ?_ (by rw [hpm]; exact hvm)
             refine s4 ?_
             refine aP (pEqlLn rfl rfl rfl) ?_
             refine aBoolT ?_ hln
             refine s2 ?_
             refine aCB (fun w hw => awake_any w) ?_
             refine s5 ?_
             refine JR_one rfl (rr_tmp rfl) ?_
             intro w' hw
             exact ⟨rfl, hw.bel⟩
            ·refine s6 ?_
             have hln : eqLn (enV (⟨kf, kt, ks, ke, kp⟩ : Cd) (1 - first) power (l.map excY) cs).a (enV (⟨kf, kt, ks, ke, kp⟩ : Cd) (1 - first) power (l.map excY) cs).b (enV (⟨kf, kt, ks, ke, kp⟩ : Cd) (1 - first) power (l.map excY) cs).p (enV (⟨kf, kt, ks, ke, kp⟩ : Cd) first power (l.map twP) cs).a (enV (⟨kf, kt, ks, ke, kp⟩ : Cd) first power (l.map twP) cs).b (enV (⟨kf, kt, ks, ke, kp⟩ : Cd) first power (l.map twP) cs).p = true := by rw [hx1, hx2, hx3]; unfold excT; rw [if_neg (by omega)]; exact eqLn_refl _ _ _
             refine kJ [(13, _), (15, _), (18, _), (19, _), (20, _)] ?_
             refine s3 ?_
             refine aDecT ?_ rfl
             refine s3 ?_
             refine aCB (fun w hw => refSame ((enV (⟨kf, kt, ks, ke, kp⟩ : Cd) first power (l.map twP) cs).m.map mirS) (enV (⟨kf, kt, ks, ke, kp⟩ : Cd) first (IntKind.i64.wrap (-power)) (l.map mirY) cs).m _ _ w (mir_arr (own_arr (A := t102.1) (c := t102.2) (ty := 49) (L := (enV (⟨kf, kt, ks, ke, kp⟩ : Cd) first power (l.map twP) cs).m.map mirS) ET hw (by rw [List.length_map]; repeat constructor) (by rw [List.length_map]; omega))) (own_arr (A := t53.1) (c := t53.2) (ty := 49) (L := (enV (⟨kf, kt, ks, ke, kp⟩ : Cd) first (IntKind.i64.wrap (-power)) (l.map mirY) cs).m) ET hw (by repeat constructor) (by omega))) ?_
             refine aDecT ?_ (by rw [hpm]; exact hvm)
             refine s4 ?_
             refine aP (pEqlLn rfl rfl rfl) ?_
             refine aBoolT ?_ hln
             refine s2 ?_
             refine aCB (fun w hw => awake_any w) ?_
             refine s5 ?_
             refine JR_one rfl (rr_tmp rfl) ?_
             intro w' hw
             exact ⟨rfl, hw.bel⟩
         ·refine St1_mk rfl wAny oA (by first | exact trivial | exact ⟨by kernel_rfl, .inl (rfl : waitsB _ [] _ = true)⟩ | exact ⟨by kernel_rfl, .inr ⟨rfl, by repeat constructor⟩⟩) (fun b15 hb15 => ?_)
          refine dOA [6, 9, 10, 11, 12, 13, 15, 16, 17] ?_
          refine dW rfl (oR (fun w hw => excY_any l A cap w (hrow0.up ETw hw.bel) (fun p hp => (hT p hp).up hw.bel) hfar.2 hfar.1)) (fun t87 ht87 => ?_)
          dsimp only [twI, List.cons_append, List.nil_append]
          have hq87 : t87.L.length ≤ 110 := by
           have h := congrArg List.length ht87.1
           rw [List.length_map, List.length_map] at h
           omega
          refine dW rfl (oR (fun w hw => (End_any (⟨kf, kt, ks, ke, kp⟩ : Cd) (1 - first) power t87.L t87.A t87.c cs cA cc w (own_arr (A := t87.A) (c := t87.c) (ty := 42) (L := t87.L) ETw hw (by repeat constructor) (by omega)) (tw_W (hw.ok (grpB (t87.L.map rwT)) (by repeat constructor)).1 ht87) (hcs.up EI hw.bel)).mono (fun _ _ h => by rw [show t87.L.map twP = _ from ht87.1] at h; exact En_V h))) (fun t90 _ => ?_)
          refine s11 ?_
          have hvx := vx_ok (⟨kf, kt, ks, ke, kp⟩ : Cd) first power l cs hTm hSt
          refine kJ [(9, _), (10, _), (11, _), (13, _), (15, _), (17, _)] ?_
          refine s4 ?_
          refine aDecF ?_ (fun h => h hvx.1.symm)
          refine s7 ?_
          refine kJ [(9, _), (10, _), (11, _), (13, _), (15, _)] ?_
          refine s3 ?_
          refine JL_dec (fun h98 => ?_) (fun h98 => ?_)
          ·refine s4 ?_
           refine kJ [] ?_
           refine s1 ?_
           refine aCB (fun w hw => awake_any w) ?_
           refine s5 ?_
           refine JR_one rfl (rr_tmp rfl) ?_
           intro w' hw
           exact ⟨rfl, hw.bel⟩
          ·refine s6 ?_
           have he0 : (enV (⟨kf, kt, ks, ke, kp⟩ : Cd) first power (l.map twP) cs).e = 0 := by omega
           obtain ⟨hvc, hvm⟩ := hm.2.2.2.2 he0
           obtain ⟨hx1, hx2, hx3⟩ := hvx.2 he0
           have hrng := enV_rng (⟨kf, kt, ks, ke, kp⟩ : Cd) first power (l.map twP) cs
           have hvl := (chk_facts hvc).1
           have hvl2 : (enV (⟨kf, kt, ks, ke, kp⟩ : Cd) first (IntKind.i64.wrap (-power)) (l.map mirY) cs).m.length ≤ 16 := by rw [hpm, ← hvm, List.length_map]; exact hvl
           refine s2 ?_
           refine aW (oR (fun w hw => (Mirror_any (enV (⟨kf, kt, ks, ke, kp⟩ : Cd) first power (l.map twP) cs).m _ w (own_arr (A := t39.1) (c := t39.2) (ty := 49) (L := (enV (⟨kf, kt, ks, ke, kp⟩ : Cd) first power (l.map twP) cs).m) ET hw (by repeat constructor) (by omega))).mono (fun _ _ h => by unfold RetMi at h; rw [if_pos hvc] at h; exact h))) (fun t102 _ => ?_)
           refine s8 ?_
           refine kJ [(9, _), (13, _), (15, _), (18, _), (19, _)] ?_
           refine s2 ?_
           refine aW oA (fun b20 hb20 => ?_)
           refine s9 ?_
           refine JL_dec (fun h108 => ?_) (fun h108 => ?_)
           ·refine s3 ?_
            refine kJ [(13, _), (15, _), (18, _), (19, _), (20, _)] ?_
            refine s9 ?_
            have hln : eqLn (enV (⟨kf, kt, ks, ke, kp⟩ : Cd) (1 - first) power (l.map excY) cs).a (enV (⟨kf, kt, ks, ke, kp⟩ : Cd) (1 - first) power (l.map excY) cs).b (enV (⟨kf, kt, ks, ke, kp⟩ : Cd) (1 - first) power (l.map excY) cs).p (1 - (enV (⟨kf, kt, ks, ke, kp⟩ : Cd) first power (l.map twP) cs).a) (enV (⟨kf, kt, ks, ke, kp⟩ : Cd) first power (l.map twP) cs).b (enV (⟨kf, kt, ks, ke, kp⟩ : Cd) first power (l.map twP) cs).p = true := by rw [hx1, hx2, hx3]; unfold excT; rw [if_pos (by omega)]; exact eqLn_refl _ _ _
            refine kJ [(13, _), (15, _), (18, _), (19, _), (20, _)] ?_
            refine s3 ?_
            refine aDecT ?_ rfl
            refine s3 ?_
            refine aCB (fun w hw => refSame ((enV (⟨kf, kt, ks, ke, kp⟩ : Cd) first power (l.map twP) cs).m.map mirS) (enV (⟨kf, kt, ks, ke, kp⟩ : Cd) first (IntKind.i64.wrap (-power)) (l.map mirY) cs).m _ _ w (mir_arr (own_arr (A := t102.1) (c := t102.2) (ty := 49) (L := (enV (⟨kf, kt, ks, ke, kp⟩ : Cd) first power (l.map twP) cs).m.map mirS) ET hw (by rw [List.length_map]; repeat constructor) (by rw [List.length_map]; omega))) (own_arr (A := t53.1) (c := t53.2) (ty := 49) (L := (enV (⟨kf, kt, ks, ke, kp⟩ : Cd) first (IntKind.i64.wrap (-power)) (l.map mirY) cs).m) ET hw (by repeat constructor) (by omega))) ?_
            refine aDecT ?_ (by rw [hpm]; exact hvm)
            refine s4 ?_
            refine aP (pEqlLn rfl rfl rfl) ?_
            refine aBoolT ?_ hln
            refine s2 ?_
            refine aCB (fun w hw => awake_any w) ?_
            refine s5 ?_
            refine JR_one rfl (rr_tmp rfl) ?_
            intro w' hw
            exact ⟨rfl, hw.bel⟩
           ·refine s6 ?_
            have hln : eqLn (enV (⟨kf, kt, ks, ke, kp⟩ : Cd) (1 - first) power (l.map excY) cs).a (enV (⟨kf, kt, ks, ke, kp⟩ : Cd) (1 - first) power (l.map excY) cs).b (enV (⟨kf, kt, ks, ke, kp⟩ : Cd) (1 - first) power (l.map excY) cs).p (enV (⟨kf, kt, ks, ke, kp⟩ : Cd) first power (l.map twP) cs).a (enV (⟨kf, kt, ks, ke, kp⟩ : Cd) first power (l.map twP) cs).b (enV (⟨kf, kt, ks, ke, kp⟩ : Cd) first power (l.map twP) cs).p = true := by rw [hx1, hx2, hx3]; unfold excT; rw [if_neg (by omega)]; exact eqLn_refl _ _ _
            refine kJ [(13, _), (15, _), (18, _), (19, _), (20, _)] ?_
            refine s3 ?_
            refine aDecT ?_ rfl
            refine s3 ?_
            refine aCB (fun w hw => refSame ((enV (⟨kf, kt, ks, ke, kp⟩ : Cd) first power (l.map twP) cs).m.map mirS) (enV (⟨kf, kt, ks, ke, kp⟩ : Cd) first (IntKind.i64.wrap (-power)) (l.map mirY) cs).m _ _ w (mir_arr (own_arr (A := t102.1) (c := t102.2) (ty := 49) (L := (enV (⟨kf, kt, ks, ke, kp⟩ : Cd) first power (l.map twP) cs).m.map mirS) ET hw (by rw [List.length_map]; repeat constructor) (by rw [List.length_map]; omega))) (own_arr (A := t53.1) (c := t53.2) (ty := 49) (L := (enV (⟨kf, kt, ks, ke, kp⟩ : Cd) first (IntKind.i64.wrap (-power)) (l.map mirY) cs).m) ET hw (by repeat constructor) (by omega))) ?_
            refine aDecT ?_ (by rw [hpm]; exact hvm)
            refine s4 ?_
            refine aP (pEqlLn rfl rfl rfl) ?_
            refine aBoolT ?_ hln
            refine s2 ?_
            refine aCB (fun w hw => awake_any w) ?_
            refine s5 ?_
            refine JR_one rfl (rr_tmp rfl) ?_
            intro w' hw
            exact ⟨rfl, hw.bel⟩
   ·refine St1_mk rfl wAny oA (by first | exact trivial | exact ⟨by kernel_rfl, .inl (rfl : waitsB _ [] _ = true)⟩ | exact ⟨by kernel_rfl, .inr ⟨rfl, by repeat constructor⟩⟩) (fun b12 hb12 => ?_)
    refine dOA [6, 9, 10, 11, 12, 13, 15, 16, 17] ?_
    refine dW rfl (oR (fun w hw => mirY_any l A cap w (hrow0.up ETw hw.bel) (fun p hp => (hT p hp).up hw.bel) hfar.2 hfar.1)) (fun t50 ht50 => ?_)
    dsimp only [twI, List.cons_append, List.nil_append]
    have hq50 : t50.L.length ≤ 110 := by
     have h := congrArg List.length ht50.1
     rw [List.length_map, List.length_map] at h
     omega
    refine dW rfl (oR (fun w hw => (End_any (⟨kf, kt, ks, ke, kp⟩ : Cd) first (IntKind.i64.wrap (-power)) t50.L t50.A t50.c cs cA cc w (own_arr (A := t50.A) (c := t50.c) (ty := 42) (L := t50.L) ETw hw (by repeat constructor) (by omega)) (tw_W (hw.ok (grpB (t50.L.map rwT)) (by repeat constructor)).1 ht50) (hcs.up EI hw.bel)).mono (fun _ _ h => by rw [show t50.L.map twP = _ from ht50.1] at h; exact En_V h))) (fun t53 _ => ?_)
    refine s11 ?_
    refine kJ [(1, _), (2, _), (4, _), (7, _), (9, _), (10, _), (11, _), (12, _), (13, _), (14, _)] ?_
    refine s3 ?_
    refine JL_dec (fun h58 => ?_) (fun h58 => ?_)
    ·refine s16 ?_
     refine kJ [] ?_
     refine s1 ?_
     refine aCB (fun w hw => awake_any w) ?_
     refine s5 ?_
     refine JR_one rfl (rr_tmp rfl) ?_
     intro w' hw
     exact ⟨rfl, hw.bel⟩
    ·refine s3 ?_
     refine JL_dec (fun h61 => ?_) (fun h61 => ?_)
     ·refine s13 ?_
      refine kJ [] ?_
      refine s1 ?_
      refine aCB (fun w hw => awake_any w) ?_
      refine s5 ?_
      refine JR_one rfl (rr_tmp rfl) ?_
      intro w' hw
      exact ⟨rfl, hw.bel⟩
     ·refine s4 ?_
      refine JL_dec (fun h65 => ?_) (fun h65 => ?_)
      ·refine s9 ?_
       refine kJ [] ?_
       refine s1 ?_
       refine aCB (fun w hw => awake_any w) ?_
       refine s5 ?_
       refine JR_one rfl (rr_tmp rfl) ?_
       intro w' hw
       exact ⟨rfl, hw.bel⟩
      ·refine s4 ?_
       refine JL_dec (fun h69 => ?_) (fun h69 => ?_)
       ·refine s5 ?_
        refine kJ [] ?_
        refine s1 ?_
        refine aCB (fun w hw => awake_any w) ?_
        refine s5 ?_
        refine JR_one rfl (rr_tmp rfl) ?_
        intro w' hw
        exact ⟨rfl, hw.bel⟩
       ·refine s8 ?_
        have hpm : (IntKind.i64.wrap (-power)) = -power := wrI_in (by omega)
        have hm := vm_ok (⟨kf, kt, ks, ke, kp⟩ : Cd) first power l cs hSt
        refine kJ [(1, _), (2, _), (4, _), (7, _), (9, _), (10, _), (11, _), (12, _), (13, _), (14, _)] ?_
        refine s4 ?_
        refine aDecF ?_ (fun h => h (by rw [hpm]; exact hm.1.symm))
        refine s3 ?_
        refine aP (pNeqLn rfl rfl rfl) ?_
        refine aBoolF ?_ (by rw [hpm, hm.2.1, hm.2.2.1, hm.2.2.2.1, eqLn_refl]; rfl)
        refine s7 ?_
        refine kJ [(1, _), (2, _), (4, _), (7, _), (9, _), (10, _), (11, _), (13, _)] ?_
        refine xDx [0, 1, 2, 3, 4, 5, 7, 8] [] [0, 5, 8] [cellB b4 [.int .i64 kf, .int .i64 kt, .int .i64 ks, .int .i64 ke, .bool kp] 23, cellB b7 [.slice A l.length cap, .slice cA cs.length cc] 27] ?_
        refine s8 ?_
        refine dPair (i := 6) (j := 14) (by kernel_rfl) ?_ ?_
        ·refine St1_mk rfl wAny (oR (fun w hw => excY_any l A cap w (hrow0.up ETw hw.bel) (fun p hp => (hT p hp).up hw.bel) hfar.2 hfar.1)) (by first | exact trivial | exact ⟨by kernel_rfl, .inl (rfl : waitsB _ [] _ = true)⟩ | exact ⟨by kernel_rfl, .inr ⟨rfl, by repeat constructor⟩⟩) (fun t87 ht87 => ?_)
         dsimp only [twI, List.cons_append, List.nil_append]
         have hq87 : t87.L.length ≤ 110 := by
          have h := congrArg List.length ht87.1
          rw [List.length_map, List.length_map] at h
          omega
         refine dOA [] ?_
         refine dPair (i := 9) (j := 14) (by kernel_rfl) ?_ ?_
         ·refine St1_mk rfl wAny (oR (fun w hw => (End_any (⟨kf, kt, ks, ke, kp⟩ : Cd) (1 - first) power t87.L t87.A t87.c cs cA cc w (own_arr (A := t87.A) (c := t87.c) (ty := 42) (L := t87.L) ETw hw (by repeat constructor) (by omega)) (tw_W (hw.ok (grpB (t87.L.map rwT)) (by repeat constructor)).1 ht87) (hcs.up EI hw.bel)).mono (fun _ _ h => by rw [show t87.L.map twP = _ from ht87.1] at h; exact En_V h))) (by first | exact trivial | exact ⟨by kernel_rfl, .inl (rfl : waitsB _ [] _ = true)⟩ | exact ⟨by kernel_rfl, .inr ⟨rfl, by repeat constructor⟩⟩) (fun t90 _ => ?_)
          refine dOA [10, 11, 12, 13, 14, 15, 16, 17] ?_
          refine s4 ?_
          refine dW rfl oA (fun b15 hb15 => ?_)
          refine s7 ?_
          have hvx := vx_ok (⟨kf, kt, ks, ke, kp⟩ : Cd) first power l cs hTm hSt
          refine kJ [(9, _), (10, _), (11, _), (13, _), (15, _), (17, _)] ?_
          refine s4 ?_
          refine aDecF ?_ (fun h => h hvx.1.symm)
          refine s7 ?_
          refine kJ [(9, _), (10, _), (11, _), (13, _), (15, _)] ?_
          refine s3 ?_
          refine JL_dec (fun h98 => ?_) (fun h98 => ?_)
          ·refine s4 ?_
           refine kJ [] ?_
           refine s1 ?_
           refine aCB (fun w hw => awake_any w) ?_
           refine s5 ?_
           refine JR_one rfl (rr_tmp rfl) ?_
           intro w' hw
           exact ⟨rfl, hw.bel⟩
          ·refine s6 ?_
           have he0 : (enV (⟨kf, kt, ks, ke, kp⟩ : Cd) first power (l.map twP) cs).e = 0 := by omega
           obtain ⟨hvc, hvm⟩ := hm.2.2.2.2 he0
           obtain ⟨hx1, hx2, hx3⟩ := hvx.2 he0
           have hrng := enV_rng (⟨kf, kt, ks, ke, kp⟩ : Cd) first power (l.map twP) cs
           have hvl := (chk_facts hvc).1
           have hvl2 : (enV (⟨kf, kt, ks, ke, kp⟩ : Cd) first (IntKind.i64.wrap (-power)) (l.map mirY) cs).m.length ≤ 16 := by rw [hpm, ← hvm, List.length_map]; exact hvl
           refine s2 ?_
           refine aW (oR (fun w hw => (Mirror_any (enV (⟨kf, kt, ks, ke, kp⟩ : Cd) first power (l.map twP) cs).m _ w (own_arr (A := t39.1) (c := t39.2) (ty := 49) (L := (enV (⟨kf, kt, ks, ke, kp⟩ : Cd) first power (l.map twP) cs).m) ET hw (by repeat constructor) (by omega))).mono (fun _ _ h => by unfold RetMi at h; rw [if_pos hvc] at h; exact h))) (fun t102 _ => ?_)
           refine s8 ?_
           refine kJ [(9, _), (13, _), (15, _), (18, _), (19, _)] ?_
           refine s2 ?_
           refine aW oA (fun b20 hb20 => ?_)
           refine s9 ?_
           refine JL_dec (fun h108 => ?_) (fun h108 => ?_)
           ·refine s3 ?_
            refine kJ [(13, _), (15, _), (18, _), (19, _), (20, _)] ?_
            refine s9 ?_
            have hln : eqLn (enV (⟨kf, kt, ks, ke, kp⟩ : Cd) (1 - first) power (l.map excY) cs).a (enV (⟨kf, kt, ks, ke, kp⟩ : Cd) (1 - first) power (l.map excY) cs).b (enV (⟨kf, kt, ks, ke, kp⟩ : Cd) (1 - first) power (l.map excY) cs).p (1 - (enV (⟨kf, kt, ks, ke, kp⟩ : Cd) first power (l.map twP) cs).a) (enV (⟨kf, kt, ks, ke, kp⟩ : Cd) first power (l.map twP) cs).b (enV (⟨kf, kt, ks, ke, kp⟩ : Cd) first power (l.map twP) cs).p = true := by rw [hx1, hx2, hx3]; unfold excT; rw [if_pos (by omega)]; exact eqLn_refl _ _ _
            refine kJ [(13, _), (15, _), (18, _), (19, _), (20, _)] ?_
            refine s3 ?_
            refine aDecT ?_ rfl
            refine s3 ?_
            refine aCB (fun w hw => refSame ((enV (⟨kf, kt, ks, ke, kp⟩ : Cd) first power (l.map twP) cs).m.map mirS) (enV (⟨kf, kt, ks, ke, kp⟩ : Cd) first (IntKind.i64.wrap (-power)) (l.map mirY) cs).m _ _ w (mir_arr (own_arr (A := t102.1) (c := t102.2) (ty := 49) (L := (enV (⟨kf, kt, ks, ke, kp⟩ : Cd) first power (l.map twP) cs).m.map mirS) ET hw (by rw [List.length_map]; repeat constructor) (by rw [List.length_map]; omega))) (own_arr (A := t53.1) (c := t53.2) (ty := 49) (L := (enV (⟨kf, kt, ks, ke, kp⟩ : Cd) first (IntKind.i64.wrap (-power)) (l.map mirY) cs).m) ET hw (by repeat constructor) (by omega))) ?_
            refine aDecT ?_ (by rw [hpm]; exact hvm)
            refine s4 ?_
            refine aP (pEqlLn rfl rfl rfl) ?_
            refine aBoolT ?_ hln
            refine s2 ?_
            refine aCB (fun w hw => awake_any w) ?_
            refine s5 ?_
            refine JR_one rfl (rr_tmp rfl) ?_
            intro w' hw
            exact ⟨rfl, hw.bel⟩
           ·refine s6 ?_
            have hln : eqLn (enV (⟨kf, kt, ks, ke, kp⟩ : Cd) (1 - first) power (l.map excY) cs).a (enV (⟨kf, kt, ks, ke, kp⟩ : Cd) (1 - first) power (l.map excY) cs).b (enV (⟨kf, kt, ks, ke, kp⟩ : Cd) (1 - first) power (l.map excY) cs).p (enV (⟨kf, kt, ks, ke, kp⟩ : Cd) first power (l.map twP) cs).a (enV (⟨kf, kt, ks, ke, kp⟩ : Cd) first power (l.map twP) cs).b (enV (⟨kf, kt, ks, ke, kp⟩ : Cd) first power (l.map twP) cs).p = true := by rw [hx1, hx2, hx3]; unfold excT; rw [if_neg (by omega)]; exact eqLn_refl _ _ _
            refine kJ [(13, _), (15, _), (18, _), (19, _), (20, _)] ?_
            refine s3 ?_
            refine aDecT ?_ rfl
            refine s3 ?_
            refine aCB (fun w hw => refSame ((enV (⟨kf, kt, ks, ke, kp⟩ : Cd) first power (l.map twP) cs).m.map mirS) (enV (⟨kf, kt, ks, ke, kp⟩ : Cd) first (IntKind.i64.wrap (-power)) (l.map mirY) cs).m _ _ w (mir_arr (own_arr (A := t102.1) (c := t102.2) (ty := 49) (L := (enV (⟨kf, kt, ks, ke, kp⟩ : Cd) first power (l.map twP) cs).m.map mirS) ET hw (by rw [List.length_map]; repeat constructor) (by rw [List.length_map]; omega))) (own_arr (A := t53.1) (c := t53.2) (ty := 49) (L := (enV (⟨kf, kt, ks, ke, kp⟩ : Cd) first (IntKind.i64.wrap (-power)) (l.map mirY) cs).m) ET hw (by repeat constructor) (by omega))) ?_
            refine aDecT ?_ (by rw [hpm]; exact hvm)
            refine s4 ?_
            refine aP (pEqlLn rfl rfl rfl) ?_
            refine aBoolT ?_ hln
            refine s2 ?_
            refine aCB (fun w hw => awake_any w) ?_
            refine s5 ?_
            refine JR_one rfl (rr_tmp rfl) ?_
            intro w' hw
            exact ⟨rfl, hw.bel⟩
         ·refine St1_mk rfl wAny oA (by first | exact trivial | exact ⟨by kernel_rfl, .inl (rfl : waitsB _ [] _ = true)⟩ | exact ⟨by kernel_rfl, .inr ⟨rfl, by repeat constructor⟩⟩) (fun b15 hb15 => ?_)
          refine dOA [9, 10, 11, 12, 13, 15, 16, 17] ?_
          refine dW rfl (oR (fun w hw => (End_any (⟨kf, kt, ks, ke, kp⟩ : Cd) (1 - first) power t87.L t87.A t87.c cs cA cc w (own_arr (A := t87.A) (c := t87.c) (ty := 42) (L := t87.L) ETw hw (by repeat constructor) (by omega)) (tw_W (hw.ok (grpB (t87.L.map rwT)) (by repeat constructor)).1 ht87) (hcs.up EI hw.bel)).mono (fun _ _ h => by rw [show t87.L.map twP = _ from ht87.1] at h; exact En_V h))) (fun t90 _ => ?_)
          refine s11 ?_
          have hvx := vx_ok (⟨kf, kt, ks, ke, kp⟩ : Cd) first power l cs hTm hSt
          refine kJ [(9, _), (10, _), (11, _), (13, _), (15, _), (17, _)] ?_
          refine s4 ?_
          refine aDecF ?_ (fun h => h hvx.1.symm)
          refine s7 ?_
          refine kJ [(9, _), (10, _), (11, _), (13, _), (15, _)] ?_
          refine s3 ?_
          refine JL_dec (fun h98 => ?_) (fun h98 => ?_)
          ·refine s4 ?_
           refine kJ [] ?_
           refine s1 ?_
           refine aCB (fun w hw => awake_any w) ?_
           refine s5 ?_
           refine JR_one rfl (rr_tmp rfl) ?_
           intro w' hw
           exact ⟨rfl, hw.bel⟩
          ·refine s6 ?_
           have he0 : (enV (⟨kf, kt, ks, ke, kp⟩ : Cd) first power (l.map twP) cs).e = 0 := by omega
           obtain ⟨hvc, hvm⟩ := hm.2.2.2.2 he0
           obtain ⟨hx1, hx2, hx3⟩ := hvx.2 he0
           have hrng := enV_rng (⟨kf, kt, ks, ke, kp⟩ : Cd) first power (l.map twP) cs
           have hvl := (chk_facts hvc).1
           have hvl2 : (enV (⟨kf, kt, ks, ke, kp⟩ : Cd) first (IntKind.i64.wrap (-power)) (l.map mirY) cs).m.length ≤ 16 := by rw [hpm, ← hvm, List.length_map]; exact hvl
           refine s2 ?_
           refine aW (oR (fun w hw => (Mirror_any (enV (⟨kf, kt, ks, ke, kp⟩ : Cd) first power (l.map twP) cs).m _ w (own_arr (A := t39.1) (c := t39.2) (ty := 49) (L := (enV (⟨kf, kt, ks, ke, kp⟩ : Cd) first power (l.map twP) cs).m) ET hw (by repeat constructor) (by omega))).mono (fun _ _ h => by unfold RetMi at h; rw [if_pos hvc] at h; exact h))) (fun t102 _ => ?_)
           refine s8 ?_
           refine kJ [(9, _), (13, _), (15, _), (18, _), (19, _)] ?_
           refine s2 ?_
           refine aW oA (fun b20 hb20 => ?_)
           refine s9 ?_
           refine JL_dec (fun h108 => ?_) (fun h108 => ?_)
           ·refine s3 ?_
            refine kJ [(13, _), (15, _), (18, _), (19, _), (20, _)] ?_
            refine s9 ?_
            have hln : eqLn (enV (⟨kf, kt, ks, ke, kp⟩ : Cd) (1 - first) power (l.map excY) cs).a (enV (⟨kf, kt, ks, ke, kp⟩ : Cd) (1 - first) power (l.map excY) cs).b (enV (⟨kf, kt, ks, ke, kp⟩ : Cd) (1 - first) power (l.map excY) cs).p (1 - (enV (⟨kf, kt, ks, ke, kp⟩ : Cd) first power (l.map twP) cs).a) (enV (⟨kf, kt, ks, ke, kp⟩ : Cd) first power (l.map twP) cs).b (enV (⟨kf, kt, ks, ke, kp⟩ : Cd) first power (l.map twP) cs).p = true := by rw [hx1, hx2, hx3]; unfold excT; rw [if_pos (by omega)]; exact eqLn_refl _ _ _
            refine kJ [(13, _), (15, _), (18, _), (19, _), (20, _)] ?_
            refine s3 ?_
            refine aDecT ?_ rfl
            refine s3 ?_
            refine aCB (fun w hw => refSame ((enV (⟨kf, kt, ks, ke, kp⟩ : Cd) first power (l.map twP) cs).m.map mirS) (enV (⟨kf, kt, ks, ke, kp⟩ : Cd) first (IntKind.i64.wrap (-power)) (l.map mirY) cs).m _ _ w (mir_arr (own_arr (A := t102.1) (c := t102.2) (ty := 49) (L := (enV (⟨kf, kt, ks, ke, kp⟩ : Cd) first power (l.map twP) cs).m.map mirS) ET hw (by rw [List.length_map]; repeat constructor) (by rw [List.length_map]; omega))) (own_arr (A := t53.1) (c := t53.2) (ty := 49) (L := (enV (⟨kf, kt, ks, ke, kp⟩ : Cd) first (IntKind.i64.wrap (-power)) (l.map mirY) cs).m) ET hw (by repeat constructor) (by omega))) ?_
            refine aDecT ?_ (by rw [hpm]; exact hvm)
            refine s4 ?_
            refine aP (pEqlLn rfl rfl rfl) ?_
            refine aBoolT ?_ hln
            refine s2 ?_
            refine aCB (fun w hw => awake_any w) ?_
            refine s5 ?_
            refine JR_one rfl (rr_tmp rfl) ?_
            intro w' hw
            exact ⟨rfl, hw.bel⟩
           ·refine s6 ?_
            have hln : eqLn (enV (⟨kf, kt, ks, ke, kp⟩ : Cd) (1 - first) power (l.map excY) cs).a (enV (⟨kf, kt, ks, ke, kp⟩ : Cd) (1 - first) power (l.map excY) cs).b (enV (⟨kf, kt, ks, ke, kp⟩ : Cd) (1 - first) power (l.map excY) cs).p (enV (⟨kf, kt, ks, ke, kp⟩ : Cd) first power (l.map twP) cs).a (enV (⟨kf, kt, ks, ke, kp⟩ : Cd) first power (l.map twP) cs).b (enV (⟨kf, kt, ks, ke, kp⟩ : Cd) first power (l.map twP) cs).p = true := by rw [hx1, hx2, hx3]; unfold excT; rw [if_neg (by omega)]; exact eqLn_refl _ _ _
            refine kJ [(13, _), (15, _), (18, _), (19, _), (20, _)] ?_
            refine s3 ?_
            refine aDecT ?_ rfl
            refine s3 ?_
            refine aCB (fun w hw => refSame ((enV (⟨kf, kt, ks, ke, kp⟩ : Cd) first power (l.map twP) cs).m.map mirS) (enV (⟨kf, kt, ks, ke, kp⟩ : Cd) first (IntKind.i64.wrap (-power)) (l.map mirY) cs).m _ _ w (mir_arr (own_arr (A := t102.1) (c := t102.2) (ty := 49) (L := (enV (⟨kf, kt, ks, ke, kp⟩ : Cd) first power (l.map twP) cs).m.map mirS) ET hw (by rw [List.length_map]; repeat constructor) (by rw [List.length_map]; omega))) (own_arr (A := t53.1) (c := t53.2) (ty := 49) (L := (enV (⟨kf, kt, ks, ke, kp⟩ : Cd) first (IntKind.i64.wrap (-power)) (l.map mirY) cs).m) ET hw (by repeat constructor) (by omega))) ?_
            refine aDecT ?_ (by rw [hpm]; exact hvm)
            refine s4 ?_
            refine aP (pEqlLn rfl rfl rfl) ?_
            refine aBoolT ?_ hln
            refine s2 ?_
            refine aCB (fun w hw => awake_any w) ?_
            refine s5 ?_
            refine JR_one rfl (rr_tmp rfl) ?_
            intro w' hw
            exact ⟨rfl, hw.bel⟩
        ·refine St1_mk rfl wAny oA (by first | exact trivial | exact ⟨by kernel_rfl, .inl (rfl : waitsB _ [] _ = true)⟩ | exact ⟨by kernel_rfl, .inr ⟨rfl, by repeat constructor⟩⟩) (fun b15 hb15 => ?_)
         refine dOA [6, 9, 10, 11, 12, 13, 15, 16, 17] ?_
         refine dW rfl (oR (fun w hw => excY_any l A cap w (hrow0.up ETw hw.bel) (fun p hp => (hT p hp).up hw.bel) hfar.2 hfar.1)) (fun t87 ht87 => ?_)
         dsimp only [twI, List.cons_append, List.nil_append]
         have hq87 : t87.L.length ≤ 110 := by
          have h := congrArg List.length ht87.1
          rw [List.length_map, List.length_map] at h
          omega
         refine dW rfl (oR (fun w hw => (End_any (⟨kf, kt, ks, ke, kp⟩ : Cd) (1 - first) power t87.L t87.A t87.c cs cA cc w (own_arr (A := t87.A) (c := t87.c) (ty := 42) (L := t87.L) ETw hw (by repeat constructor) (by omega)) (tw_W (hw.ok (grpB (t87.L.map rwT)) (by repeat constructor)).1 ht87) (hcs.up EI hw.bel)).mono (fun _ _ h => by rw [show t87.L.map twP = _ from ht87.1] at h; exact En_V h))) (fun t90 _ => ?_)
         refine s11 ?_
         have hvx := vx_ok (⟨kf, kt, ks, ke, kp⟩ : Cd) first power l cs hTm hSt
         refine kJ [(9, _), (10, _), (11, _), (13, _), (15, _), (17, _)] ?_
         refine s4 ?_
         refine aDecF ?_ (fun h => h hvx.1.symm)
         refine s7 ?_
         refine kJ [(9, _), (10, _), (11, _), (13, _), (15, _)] ?_
         refine s3 ?_
         refine JL_dec (fun h98 => ?_) (fun h98 => ?_)
         ·refine s4 ?_
          refine kJ [] ?_
          refine s1 ?_
          refine aCB (fun w hw => awake_any w) ?_
          refine s5 ?_
          refine JR_one rfl (rr_tmp rfl) ?_
          intro w' hw
          exact ⟨rfl, hw.bel⟩
         ·refine s6 ?_
          have he0 : (enV (⟨kf, kt, ks, ke, kp⟩ : Cd) first power (l.map twP) cs).e = 0 := by omega
          obtain ⟨hvc, hvm⟩ := hm.2.2.2.2 he0
          obtain ⟨hx1, hx2, hx3⟩ := hvx.2 he0
          have hrng := enV_rng (⟨kf, kt, ks, ke, kp⟩ : Cd) first power (l.map twP) cs
          have hvl := (chk_facts hvc).1
          have hvl2 : (enV (⟨kf, kt, ks, ke, kp⟩ : Cd) first (IntKind.i64.wrap (-power)) (l.map mirY) cs).m.length ≤ 16 := by rw [hpm, ← hvm, List.length_map]; exact hvl
          refine s2 ?_
          refine aW (oR (fun w hw => (Mirror_any (enV (⟨kf, kt, ks, ke, kp⟩ : Cd) first power (l.map twP) cs).m _ w (own_arr (A := t39.1) (c := t39.2) (ty := 49) (L := (enV (⟨kf, kt, ks, ke, kp⟩ : Cd) first power (l.map twP) cs).m) ET hw (by repeat constructor) (by omega))).mono (fun _ _ h => by unfold RetMi at h; rw [if_pos hvc] at h; exact h))) (fun t102 _ => ?_)
          refine s8 ?_
          refine kJ [(9, _), (13, _), (15, _), (18, _), (19, _)] ?_
          refine s2 ?_
          refine aW oA (fun b20 hb20 => ?_)
          refine s9 ?_
          refine JL_dec (fun h108 => ?_) (fun h108 => ?_)
          ·refine s3 ?_
           refine kJ [(13, _), (15, _), (18, _), (19, _), (20, _)] ?_
           refine s9 ?_
           have hln : eqLn (enV (⟨kf, kt, ks, ke, kp⟩ : Cd) (1 - first) power (l.map excY) cs).a (enV (⟨kf, kt, ks, ke, kp⟩ : Cd) (1 - first) power (l.map excY) cs).b (enV (⟨kf, kt, ks, ke, kp⟩ : Cd) (1 - first) power (l.map excY) cs).p (1 - (enV (⟨kf, kt, ks, ke, kp⟩ : Cd) first power (l.map twP) cs).a) (enV (⟨kf, kt, ks, ke, kp⟩ : Cd) first power (l.map twP) cs).b (enV (⟨kf, kt, ks, ke, kp⟩ : Cd) first power (l.map twP) cs).p = true := by rw [hx1, hx2, hx3]; unfold excT; rw [if_pos (by omega)]; exact eqLn_refl _ _ _
           refine kJ [(13, _), (15, _), (18, _), (19, _), (20, _)] ?_
           refine s3 ?_
           refine aDecT ?_ rfl
           refine s3 ?_
           refine aCB (fun w hw => refSame ((enV (⟨kf, kt, ks, ke, kp⟩ : Cd) first power (l.map twP) cs).m.map mirS) (enV (⟨kf, kt, ks, ke, kp⟩ : Cd) first (IntKind.i64.wrap (-power)) (l.map mirY) cs).m _ _ w (mir_arr (own_arr (A := t102.1) (c := t102.2) (ty := 49) (L := (enV (⟨kf, kt, ks, ke, kp⟩ : Cd) first power (l.map twP) cs).m.map mirS) ET hw (by rw [List.length_map]; repeat constructor) (by rw [List.length_map]; omega))) (own_arr (A := t53.1) (c := t53.2) (ty := 49) (L := (enV (⟨kf, kt, ks, ke, kp⟩ : Cd) first (IntKind.i64.wrap (-power)) (l.map mirY) cs).m) ET hw (by repeat constructor) (by omega))) ?_
           refine aDecT ?_ (by rw [hpm]; exact hvm)
           refine s4 ?_
           refine aP (pEqlLn rfl rfl rfl) ?_
           refine aBoolT ?_ hln
           refine s2 ?_
           refine aCB (fun w hw => awake_any w) ?_
           refine s5 ?_
           refine JR_one rfl (rr_tmp rfl) ?_
           intro w' hw
           exact ⟨rfl, hw.bel⟩
          ·refine s6 ?_
           have hln : eqLn (enV (⟨kf, kt, ks, ke, kp⟩ : Cd) (1 - first) power (l.map excY) cs).a (enV (⟨kf, kt, ks, ke, kp⟩ : Cd) (1 - first) power (l.map excY) cs).b (enV (⟨kf, kt, ks, ke, kp⟩ : Cd) (1 - first) power (l.map excY) cs).p (enV (⟨kf, kt, ks, ke, kp⟩ : Cd) first power (l.map twP) cs).a (enV (⟨kf, kt, ks, ke, kp⟩ : Cd) first power (l.map twP) cs).b (enV (⟨kf, kt, ks, ke, kp⟩ : Cd) first power (l.map twP) cs).p = true := by rw [hx1, hx2, hx3]; unfold excT; rw [if_neg (by omega)]; exact eqLn_refl _ _ _
           refine kJ [(13, _), (15, _), (18, _), (19, _), (20, _)] ?_
           refine s3 ?_
           refine aDecT ?_ rfl
           refine s3 ?_
           refine aCB (fun w hw => refSame ((enV (⟨kf, kt, ks, ke, kp⟩ : Cd) first power (l.map twP) cs).m.map mirS) (enV (⟨kf, kt, ks, ke, kp⟩ : Cd) first (IntKind.i64.wrap (-power)) (l.map mirY) cs).m _ _ w (mir_arr (own_arr (A := t102.1) (c := t102.2) (ty := 49) (L := (enV (⟨kf, kt, ks, ke, kp⟩ : Cd) first power (l.map twP) cs).m.map mirS) ET hw (by rw [List.length_map]; repeat constructor) (by rw [List.length_map]; omega))) (own_arr (A := t53.1) (c := t53.2) (ty := 49) (L := (enV (⟨kf, kt, ks, ke, kp⟩ : Cd) first (IntKind.i64.wrap (-power)) (l.map mirY) cs).m) ET hw (by repeat constructor) (by omega))) ?_
           refine aDecT ?_ (by rw [hpm]; exact hvm)
           refine s4 ?_
           refine aP (pEqlLn rfl rfl rfl) ?_
           refine aBoolT ?_ hln
           refine s2 ?_
           refine aCB (fun w hw => awake_any w) ?_
           refine s5 ?_
           refine JR_one rfl (rr_tmp rfl) ?_
           intro w' hw
           exact ⟨rfl, hw.bel⟩
end Go.Proofs.Ytmcpnoailbmkkaa
/- Parameters of the laws: what their reading gives, and that they are read again as they were. -/
namespace Go.Proofs.Ytmcpnoailbmkkaa
open Go.ChangeShapes Go.WideShapes Go.ChangeAt Go.RowKit
theorem i64_of {x : Int} (h : (Lit.int .i64 x).wf = true) : I64 x := by
 have h2 : (decide ((-9223372036854775808 : Int) ≤ x) && decide (x ≤ 9223372036854775807)) = true := h
 rw [Bool.and_eq_true] at h2
 exact ⟨of_decide_eq_true h2.1, of_decide_eq_true h2.2⟩
section
variable {H : Type} {enc : TypeId × Value → H}
set_option maxRecDepth 100000
theorem el_int : ElC Try.prog enc 3 (fun _ cs => ∃ x, cs = [.int .i64 x] ∧ (Lit.int .i64 x).wf = true) := elInt Try.underlying3
theorem el_bool : ElC Try.prog enc 4 (fun _ cs => ∃ x, cs = [.bool x]) := elBool Try.underlying4
theorem el_fix : ElC Try.prog enc 45 (fun _ cs => ∃ x, cs = [.int .i64 x] ∧ (Lit.int .i64 x).wf = true) := elInt Try.underlying45
theorem fld {fs : Array Field} {Rs : Nat → World → List Value → Prop} {W : World} {cs : List Value} (h : ∀ (i : Nat) (f : Field), fs[i]? = some f → Rs i W ((cs.drop f.offset).take (Try.prog.cellsOf f.type))) (i : Nat) {f : Field} (hf : fs[i]? = some f) {n : Nat} (hn : Try.prog.cellsOf f.type = n) {c : List Value} (hc : (cs.drop f.offset).take n = c) : Rs i W c := by
 have := h i f hf; rw [hn, hc] at this; exact this
def codeR (i : Nat) (_ : World) (cs : List Value) : Prop := match i with
 | 0 => ∃ x, cs = [.int .i64 x] ∧ (Lit.int .i64 x).wf = true
 | 1 => ∃ x, cs = [.int .i64 x] ∧ (Lit.int .i64 x).wf = true
 | 2 => ∃ x, cs = [.int .i64 x] ∧ (Lit.int .i64 x).wf = true
 | 3 => ∃ x, cs = [.int .i64 x] ∧ (Lit.int .i64 x).wf = true
 | 4 => ∃ x, cs = [.bool x]
 | _ => True
theorem el_code : ElC Try.prog enc 23 (fun _ cs => ∃ c : Cd, cs = [.int .i64 c.f, .int .i64 c.t, .int .i64 c.s, .int .i64 c.e, .bool c.p]) := by
 refine (elStruct (Rs := codeR) Try.underlying23 (fun i f hi => ?_)).imp fun _ cs ⟨hl, h⟩ => ?_
 ·rcases i with _ | _ | _ | _ | _ | i
  ·obtain rfl := Option.some.inj hi; exact el_int
  ·obtain rfl := Option.some.inj hi; exact el_int
  ·obtain rfl := Option.some.inj hi; exact el_int
  ·obtain rfl := Option.some.inj hi; exact el_int
  ·obtain rfl := Option.some.inj hi; exact el_bool
  ·cases hi
 ·rw [show Try.prog.cellsOf 23 = 5 by kernel_rfl] at hl
  obtain ⟨c_0, c_1, c_2, c_3, c_4, rfl⟩ : ∃ c_0 c_1 c_2 c_3 c_4, cs = [c_0, c_1, c_2, c_3, c_4] := by
   match cs, hl with
   | [c_0, c_1, c_2, c_3, c_4], _ => exact ⟨_, _, _, _, _, rfl⟩
  have f0 := fld (c := [c_0]) h 0 rfl (show Try.prog.cellsOf _ = 1 by kernel_rfl) rfl
  have f1 := fld (c := [c_1]) h 1 rfl (show Try.prog.cellsOf _ = 1 by kernel_rfl) rfl
  have f2 := fld (c := [c_2]) h 2 rfl (show Try.prog.cellsOf _ = 1 by kernel_rfl) rfl
  have f3 := fld (c := [c_3]) h 3 rfl (show Try.prog.cellsOf _ = 1 by kernel_rfl) rfl
  have f4 := fld (c := [c_4]) h 4 rfl (show Try.prog.cellsOf _ = 1 by kernel_rfl) rfl
  obtain ⟨x0, e0, -⟩ := f0
  obtain rfl := (List.cons.inj e0).1
  obtain ⟨x1, e1, -⟩ := f1
  obtain rfl := (List.cons.inj e1).1
  obtain ⟨x2, e2, -⟩ := f2
  obtain rfl := (List.cons.inj e2).1
  obtain ⟨x3, e3, -⟩ := f3
  obtain rfl := (List.cons.inj e3).1
  obtain ⟨x4, e4⟩ := f4
  obtain rfl := (List.cons.inj e4).1
  exact ⟨⟨x0, x1, x2, x3, x4⟩, rfl⟩
def spotR (i : Nat) (_ : World) (cs : List Value) : Prop := match i with
 | 0 => ∃ x, cs = [.int .i64 x] ∧ (Lit.int .i64 x).wf = true
 | 1 => ∃ x, cs = [.int .i64 x] ∧ (Lit.int .i64 x).wf = true
 | _ => True
theorem el_spot : ElC Try.prog enc 47 (fun _ cs => ∃ p : Int × Int, cs = eP p ∧ I64 p.1) := by
 refine (elStruct (Rs := spotR) Try.underlying47 (fun i f hi => ?_)).imp fun _ cs ⟨hl, h⟩ => ?_
 ·rcases i with _ | _ | i
  ·obtain rfl := Option.some.inj hi; exact el_fix
  ·obtain rfl := Option.some.inj hi; exact el_fix
  ·cases hi
 ·rw [show Try.prog.cellsOf 47 = 2 by kernel_rfl] at hl
  obtain ⟨c_0, c_1, rfl⟩ : ∃ c_0 c_1, cs = [c_0, c_1] := by
   match cs, hl with
   | [c_0, c_1], _ => exact ⟨_, _, rfl⟩
  have f0 := fld (c := [c_0]) h 0 rfl (show Try.prog.cellsOf _ = 1 by kernel_rfl) rfl
  have f1 := fld (c := [c_1]) h 1 rfl (show Try.prog.cellsOf _ = 1 by kernel_rfl) rfl
  obtain ⟨x0, e0, w0⟩ := f0
  obtain rfl := (List.cons.inj e0).1
  obtain ⟨x1, e1, -⟩ := f1
  obtain rfl := (List.cons.inj e1).1
  exact ⟨(x0, x1), rfl, i64_of w0⟩
def stoneR (i : Nat) (_ : World) (cs : List Value) : Prop := match i with
 | 0 => ∃ x, cs = [.int .i64 x] ∧ (Lit.int .i64 x).wf = true
 | 1 => ∃ x, cs = [.int .i64 x] ∧ (Lit.int .i64 x).wf = true
 | 2 => ∃ p : Int × Int, cs = eP p ∧ I64 p.1
 | _ => True
theorem el_stone : ElC Try.prog enc 49 (fun _ cs => ∃ s : St, cs = eT s ∧ StW s) := by
 refine (elStruct (Rs := stoneR) Try.underlying49 (fun i f hi => ?_)).imp fun _ cs ⟨hl, h⟩ => ?_
 ·rcases i with _ | _ | _ | i
  ·obtain rfl := Option.some.inj hi; exact el_int
  ·obtain rfl := Option.some.inj hi; exact el_int
  ·obtain rfl := Option.some.inj hi; exact el_spot
  ·cases hi
 ·rw [show Try.prog.cellsOf 49 = 4 by kernel_rfl] at hl
  obtain ⟨c_0, c_1, c_2, c_3, rfl⟩ : ∃ c_0 c_1 c_2 c_3, cs = [c_0, c_1, c_2, c_3] := by
   match cs, hl with
   | [c_0, c_1, c_2, c_3], _ => exact ⟨_, _, _, _, rfl⟩
  have f0 := fld (c := [c_0]) h 0 rfl (show Try.prog.cellsOf _ = 1 by kernel_rfl) rfl
  have f1 := fld (c := [c_1]) h 1 rfl (show Try.prog.cellsOf _ = 1 by kernel_rfl) rfl
  have f2 := fld (c := [c_2, c_3]) h 2 rfl (show Try.prog.cellsOf _ = 2 by kernel_rfl) rfl
  obtain ⟨x0, e0, w0⟩ := f0
  obtain rfl := (List.cons.inj e0).1
  obtain ⟨x1, e1, -⟩ := f1
  obtain rfl := (List.cons.inj e1).1
  obtain ⟨⟨px, py⟩, e2, w2⟩ := f2
  obtain ⟨rfl, e3⟩ := List.cons.inj e2
  obtain rfl := (List.cons.inj e3).1
  exact ⟨⟨x0, x1, px, py⟩, rfl, i64_of w0, w2⟩
theorem el_stones : ElC Try.prog enc 32 (fun W cs => ∃ p : Dv St, cs = [p.v] ∧ Arr 4 eT W p.v p.l ∧ p.n = p.l.length ∧ ∀ s ∈ p.l, StW s) := elRow (wf := fun _ s => StW s) Try.underlying32 (by kernel_rfl) ET (by decide) el_stone
def throwR (i : Nat) (W : World) (cs : List Value) : Prop := match i with
 | 0 => ∃ x, cs = [.int .i64 x] ∧ (Lit.int .i64 x).wf = true
 | 1 => ∃ x, cs = [.int .i64 x] ∧ (Lit.int .i64 x).wf = true
 | 2 => ∃ x, cs = [.bool x]
 | 3 => ∃ x, cs = [.bool x]
 | 4 => ∃ x, cs = [.int .i64 x] ∧ (Lit.int .i64 x).wf = true
 | 5 => ∃ p : Dv St, cs = [p.v] ∧ Arr 4 eT W p.v p.l ∧ p.n = p.l.length ∧ ∀ s ∈ p.l, StW s
 | _ => True
theorem el_throw : ElC Try.prog enc 42 (fun W cs => ∃ p : Tw, cs = eTw p ∧ TwW W p ∧ I64 p.x.team ∧ ∀ s ∈ p.d.l, StW s) := by
 refine (elStruct (Rs := throwR) Try.underlying42 (fun i f hi => ?_)).imp fun W cs ⟨hl, h⟩ => ?_
 ·rcases i with _ | _ | _ | _ | _ | _ | i
  ·obtain rfl := Option.some.inj hi; exact el_int
  ·obtain rfl := Option.some.inj hi; exact el_int
  ·obtain rfl := Option.some.inj hi; exact el_bool
  ·obtain rfl := Option.some.inj hi; exact el_bool
  ·obtain rfl := Option.some.inj hi; exact el_int
  ·obtain rfl := Option.some.inj hi; exact el_stones
  ·cases hi
 ·rw [show Try.prog.cellsOf 42 = 6 by kernel_rfl] at hl
  obtain ⟨c_0, c_1, c_2, c_3, c_4, c_5, rfl⟩ : ∃ c_0 c_1 c_2 c_3 c_4 c_5, cs = [c_0, c_1, c_2, c_3, c_4, c_5] := by
   match cs, hl with
   | [c_0, c_1, c_2, c_3, c_4, c_5], _ => exact ⟨_, _, _, _, _, _, rfl⟩
  have f0 := fld (c := [c_0]) h 0 rfl (show Try.prog.cellsOf _ = 1 by kernel_rfl) rfl
  have f1 := fld (c := [c_1]) h 1 rfl (show Try.prog.cellsOf _ = 1 by kernel_rfl) rfl
  have f2 := fld (c := [c_2]) h 2 rfl (show Try.prog.cellsOf _ = 1 by kernel_rfl) rfl
  have f3 := fld (c := [c_3]) h 3 rfl (show Try.prog.cellsOf _ = 1 by kernel_rfl) rfl
  have f4 := fld (c := [c_4]) h 4 rfl (show Try.prog.cellsOf _ = 1 by kernel_rfl) rfl
  have f5 := fld (c := [c_5]) h 5 rfl (show Try.prog.cellsOf _ = 1 by kernel_rfl) rfl
  obtain ⟨x0, e0, w0⟩ := f0
  obtain rfl := (List.cons.inj e0).1
  obtain ⟨x1, e1, -⟩ := f1
  obtain rfl := (List.cons.inj e1).1
  obtain ⟨x2, e2⟩ := f2
  obtain rfl := (List.cons.inj e2).1
  obtain ⟨x3, e3⟩ := f3
  obtain rfl := (List.cons.inj e3).1
  obtain ⟨x4, e4, -⟩ := f4
  obtain rfl := (List.cons.inj e4).1
  obtain ⟨d, e5, h5, h6, h7⟩ := f5
  obtain rfl := (List.cons.inj e5).1
  exact ⟨⟨⟨x0, x1, x2, x3, x4⟩, d⟩, rfl, ⟨h5, h6⟩, i64_of w0, h7⟩
theorem el_throws : ElC Try.prog enc 24 (fun W cs => ∃ p : Dv Tw, cs = [p.v] ∧ Arr 6 eTw W p.v p.l ∧ p.n = p.l.length ∧ ∀ x ∈ p.l, TwW W x ∧ I64 x.x.team ∧ ∀ s ∈ x.d.l, StW s) := elRow (wf := fun W x => TwW W x ∧ I64 x.x.team ∧ ∀ s ∈ x.d.l, StW s) Try.underlying24 (by kernel_rfl) ETw (by decide) el_throw
theorem el_ints : ElC Try.prog enc 25 (fun W cs => ∃ p : Dv Int, cs = [p.v] ∧ Arr 1 eI W p.v p.l ∧ p.n = p.l.length) := (elRow (wf := fun _ _ => True) Try.underlying25 (by kernel_rfl) EI (by decide) (el_int.imp fun _ _ ⟨x, h, _⟩ => ⟨x, h, trivial⟩)).imp fun _ _ ⟨p, h1, h2, h3, _⟩ => ⟨p, h1, h2, h3⟩
def turnR (i : Nat) (W : World) (cs : List Value) : Prop := match i with
 | 0 => ∃ p : Dv Tw, cs = [p.v] ∧ Arr 6 eTw W p.v p.l ∧ p.n = p.l.length ∧ ∀ x ∈ p.l, TwW W x ∧ I64 x.x.team ∧ ∀ s ∈ x.d.l, StW s
 | 1 => ∃ p : Dv Int, cs = [p.v] ∧ Arr 1 eI W p.v p.l ∧ p.n = p.l.length
 | _ => True
theorem el_turn : ElC Try.prog enc 27 (fun W cs => ∃ (p : Dv Tw) (q : Dv Int), cs = [p.v, q.v] ∧ (Arr 6 eTw W p.v p.l ∧ p.n = p.l.length ∧ ∀ x ∈ p.l, TwW W x ∧ I64 x.x.team ∧ ∀ s ∈ x.d.l, StW s) ∧ Arr 1 eI W q.v q.l ∧ q.n = q.l.length) := by
 refine (elStruct (Rs := turnR) Try.underlying27 (fun i f hi => ?_)).imp fun W cs ⟨hl, h⟩ => ?_
 ·rcases i with _ | _ | i
  ·obtain rfl := Option.some.inj hi; exact el_throws
  ·obtain rfl := Option.some.inj hi; exact el_ints
  ·cases hi
 ·rw [show Try.prog.cellsOf 27 = 2 by kernel_rfl] at hl
  obtain ⟨c_0, c_1, rfl⟩ : ∃ c_0 c_1, cs = [c_0, c_1] := by
   match cs, hl with
   | [c_0, c_1], _ => exact ⟨_, _, rfl⟩
  have f0 := fld (c := [c_0]) h 0 rfl (show Try.prog.cellsOf _ = 1 by kernel_rfl) rfl
  have f1 := fld (c := [c_1]) h 1 rfl (show Try.prog.cellsOf _ = 1 by kernel_rfl) rfl
  obtain ⟨p, e0, h0⟩ := f0
  obtain rfl := (List.cons.inj e0).1
  obtain ⟨q, e1, h1⟩ := f1
  obtain rfl := (List.cons.inj e1).1
  exact ⟨p, q, rfl, h0, h1⟩
/-- A parameter's reading again, behind the call. -/
abbrev Again (W : World) (t : TypeId) (v : Value) (d : DataW H) (p : List MemPlace) (enc : TypeId × Value → H) : Prop := ∀ W' : World, Below W.heap.size W W' → ∀ sp : Nat → Bool, (∀ q ∈ p, sp q.block = true) → DataW.Trod enc Try.prog W' 0 sp true t v d p
variable {W : World} {base : Nat} {v : Value} {d : DataW H} {p : List MemPlace}
theorem open_num (hv : Value.okWide Try.prog W .any base 3 v) (h : DataW.Trod enc Try.prog W 0 (fun _ => true) true 3 v d p) : ∃ x : Int, v = .int .i64 x ∧ Again W 3 v d p enc := by
 obtain ⟨a, rfl⟩ := okWide_int Try.underlying3 hv
 exact ⟨_, rfl, (el_int.trod h).2⟩
theorem open_code (hv : Value.okWide Try.prog W .any base 23 v) (h : DataW.Trod enc Try.prog W 0 (fun _ => true) true 23 v d p) : ∃ c : Cd, v = Cdv c ∧ Again W 23 v d p enc := by
 obtain ⟨cs, rfl, -⟩ := okWide_struct Try.underlying23 hv
 obtain ⟨⟨c, e⟩, h3⟩ := el_code.trod h
 have e' : cs.toList = [.int .i64 c.f, .int .i64 c.t, .int .i64 c.s, .int .i64 c.e, .bool c.p] := e
 exact ⟨c, by rw [show cs = [Value.int .i64 c.f, .int .i64 c.t, .int .i64 c.s, .int .i64 c.e, .bool c.p].toArray by rw [← e']], h3⟩
theorem open_turn (hv : Value.okWide Try.prog W .any base 27 v) (h : DataW.Trod enc Try.prog W 0 (fun _ => true) true 27 v d p) : ∃ (l : List Tw) (A : Option Addr) (c : Nat) (cs : List Int) (cA : Option Addr) (cc : Nat), v = .agg #[.slice A l.length c, .slice cA cs.length cc] ∧ Arr 6 eTw W (.slice A l.length c) l ∧ (∀ x ∈ l, TwW W x) ∧ Arr 1 eI W (.slice cA cs.length cc) cs ∧ (∀ x ∈ l, I64 x.x.team) ∧ (∀ x ∈ l, ∀ s ∈ x.d.l, StW s) ∧ Again W 27 v d p enc := by
 obtain ⟨cs, rfl, -⟩ := okWide_struct Try.underlying27 hv
 obtain ⟨⟨⟨A, m, c, l⟩, ⟨cA, cm, cc, ci⟩, e, ⟨h1, hn, h2⟩, h4, hn2⟩, h3⟩ := el_turn.trod h
 dsimp only at hn hn2
 subst hn hn2
 have e' : cs.toList = [.slice A l.length c, .slice cA ci.length cc] := e
 exact ⟨l, A, c, ci, cA, cc, by rw [show cs = [Value.slice A l.length c, .slice cA ci.length cc].toArray by rw [← e']], h1, fun x hx => (h2 x hx).1, h4, fun x hx => (h2 x hx).2.1, fun x hx => (h2 x hx).2.2, h3⟩
end
end Go.Proofs.Ytmcpnoailbmkkaa
