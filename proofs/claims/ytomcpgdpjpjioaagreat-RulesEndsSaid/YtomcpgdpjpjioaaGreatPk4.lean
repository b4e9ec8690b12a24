/- Layers of the proofs, joined: Ry Rz G16 Ta Tb Tc Td Te Tf Tg G17 Tk Th Ti. -/
import Derived.Test.YtomcpgdpjpjioaaGreatPk3
/- Layer 7: New, Throw, Choose. -/
namespace Go.Proofs.YtomcpgdpjpjioaaGreat
open Go Go.RowKit Go.Proofs
attribute [local irreducible] J JQ JL JA JD

/-- The end as it begins. -/
def newE (c : Cd) (first power : Int) : En := ⟨c, first, if c.p = true then srt [⟨first, 7, power * 72089600, -229376000⟩, ⟨1 - first, 7, power * 72089600, 39976960⟩] else [], 0, none⟩
def RetNew (c : Cd) (first power : Int) (w : World) (e : Ending) (w' : World) : Prop := if goodR c first power = 0 then Ret w (fun t : Nat × EnM => EnP (newE c first power) t.2) (fun t => .tuple #[.pointer (some ⟨t.1, 0, none⟩), .int .i64 0]) (fun t => endI t.1 t.2) e w' else Back (.tuple #[.pointer none, .int .i64 (goodR c first power)]) w e w'
set_option maxRecDepth 100000 in
set_option maxHeartbeats 4000000 in
theorem New_any (c : Cd) (first power : Int) (w : World) : Calls Tryz.prog 7 #[Cdv c, .int .i64 first, .int .i64 power] w (RetNew c first power w) := by
 obtain ⟨kf, kt, ks, ke, kp⟩ := c
 refine J_enter (fun _ => False) (vs := [.agg #[.int .i64 kf, .int .i64 kt, .int .i64 ks, .int .i64 ke, .bool kp], .int .i64 first, .int .i64 power]) (k := 52) (l := [(0, .agg #[.int .i64 kf, .int .i64 kt, .int .i64 ks, .int .i64 ke, .bool kp]), (1, .int .i64 first), (2, .int .i64 power)]) Tryz.func7 rfl rfl Tryz.ntmps7 rfl rfl (Wd.start _) ?_
 refine s2 ?_
 refine aW (oX [_, _, _, _, _]) (fun b3 hb3 => ?_)
 refine s9 ?_
 refine aCB (fun w hw => CheckCode_any (⟨kf, kt, ks, ke, kp⟩ : Cd) w) ?_
 refine JL_bool (fun h12 => ?_) (fun h12 => ?_)
 ·refine s3 ?_
  refine aCB (fun w hw => rwithin _ _ _ w) ?_
  refine JL_dec (fun h16 => ?_) (fun h16 => ?_)
  ·refine s7 ?_
   refine kJ [(1, _), (2, _), (3, _)] ?_
   refine s2 ?_
   refine aCB (fun w hw => rwithin _ _ _ w) ?_
   refine JL_dec (fun h21 => ?_) (fun h21 => ?_)
   ·refine s4 ?_
    refine JL_dec (fun h25 => ?_) (fun h25 => ?_)
    ·refine s3 ?_
     refine JL_bool (fun h28 => ?_) (fun h28 => ?_)
     ·refine s11 ?_
      refine kJ [(1, _), (2, _), (3, _)] ?_
      refine s3 ?_
      refine aP (rp_buildC (fun us => [us.getD 0 undef, us.getD 1 undef, us.getD 2 undef, .slice none 0 0, .int .i64 0, .pointer none]) rfl rfl (fun w => by kernel_rfl)) ?_
      refine aW (oX [_, _, _, _, _, _, _, _, _, _]) (fun b35 hb35 => ?_)
      refine s5 ?_
      refine kJ [(1, _), (2, _), (3, _), (8, _)] ?_
      refine s3 ?_
      refine JL_bool (fun h37 => ?_) (fun h37 => ?_)
      ·refine s10 ?_
       refine kJ [(1, _), (8, _), (9, _)] ?_
       refine s4 ?_
       refine aP (rp_buildC (fun us => [us.getD 0 undef, us.getD 1 undef]) rfl rfl (fun w => by kernel_rfl)) ?_
       refine aP (rp_buildC (fun us => [us.getD 0 undef, us.getD 1 undef, us.getD 2 undef]) rfl rfl (fun w => by kernel_rfl)) ?_
       refine s3 ?_
       refine aP (rp_buildC (fun us => [us.getD 0 undef, us.getD 1 undef]) rfl rfl (fun w => by kernel_rfl)) ?_
       refine aP (rp_buildC (fun us => [us.getD 0 undef, us.getD 1 undef, us.getD 2 undef]) rfl rfl (fun w => by kernel_rfl)) ?_
       refine aW (ow_sliceC (vs := [_, _, _, _, _, _, _, _]) (ty := 43) rfl rfl (by rfl) rfl rfl (fun _ => by kernel_rfl)) (fun b50 hb50 => ?_)
       refine JL_asOwn (b := b50) (kk := 4) (m := 2) (by repeat constructor) rfl (by omega) ?_
       refine aS (oS (fun w hw => sortedT [(⟨first, 7, power * 72089600, -229376000⟩ : St), ⟨1 - first, 7, power * 72089600, 39976960⟩] _ w (own_arr (A := some ⟨b50, 0, none⟩) (c := 2) (ty := 43) (L := [(⟨first, 7, power * 72089600, -229376000⟩ : St), ⟨1 - first, 7, power * 72089600, 39976960⟩]) ET hw (by repeat constructor) (Nat.le_of_ble_eq_true rfl)) (Nat.le_of_ble_eq_true rfl) (by intro s hs; simp only [List.mem_cons, List.not_mem_nil, or_false] at hs; unfold bnd; rcases hs with rfl | rfl <;> dsimp only <;> omega) (by intro a ha b hb h1 h2; simp only [List.mem_cons, List.not_mem_nil, or_false] at ha hb; rcases ha with rfl | rfl <;> rcases hb with rfl | rfl <;> first | rfl | (dsimp only at h1; omega)))) (fun A51 c51 => ?_)
       refine s6 ?_
       refine kJ [(8, _)] ?_
       refine s7 ?_
       refine JR_two rfl (rr_tmp rfl) (rr_tmp rfl) ?_
       intro w' hw
       have e : goodR (⟨kf, kt, ks, ke, kp⟩ : Cd) first power = 0 := by unfold goodR; rw [if_pos ⟨h12, h16⟩, if_pos ⟨h21, .inl h28⟩]
       unfold RetNew
       rw [e, if_pos rfl]
       exact ⟨(b35, ⟨(⟨kf, kt, ks, ke, kp⟩ : Cd), first, srt [(⟨first, 7, power * 72089600, -229376000⟩ : St), ⟨1 - first, 7, power * 72089600, 39976960⟩], A51, c51, 0, none⟩), ⟨by subst h37; rfl, fun m hm => by cases hm⟩, rfl, hw.pick (by repeat constructor)⟩
      ·refine s6 ?_
       refine J_own0 43 4 ?_
       refine kJ [(8, _)] ?_
       refine s7 ?_
       refine JR_two rfl (rr_tmp rfl) (rr_tmp rfl) ?_
       intro w' hw
       have e : goodR (⟨kf, kt, ks, ke, kp⟩ : Cd) first power = 0 := by unfold goodR; rw [if_pos ⟨h12, h16⟩, if_pos ⟨h21, .inl h28⟩]
       unfold RetNew
       rw [e, if_pos rfl]
       exact ⟨(b35, ⟨(⟨kf, kt, ks, ke, kp⟩ : Cd), first, [], none, 0, 0, none⟩), ⟨by subst h37; rfl, fun m hm => by cases hm⟩, rfl, hw.pick (by repeat constructor)⟩
     ·refine s8 ?_
      refine kJ [] ?_
      refine s8 ?_
      refine JR_two rfl (rr_tmp rfl) (rr_tmp rfl) ?_
      intro w' hw
      have e : goodR (⟨kf, kt, ks, ke, kp⟩ : Cd) first power = 4 := by unfold goodR; rw [if_pos ⟨h12, h16⟩, if_neg (fun h => h.2.elim (fun h => by rw [h28] at h; cases h) h25)]
      unfold RetNew
      rw [e, if_neg (by decide)]
      exact ⟨rfl, hw.bel⟩
    ·refine s14 ?_
     refine kJ [(1, _), (2, _), (3, _)] ?_
     refine s3 ?_
     refine aP (rp_buildC (fun us => [us.getD 0 undef, us.getD 1 undef, us.getD 2 undef, .slice none 0 0, .int .i64 0, .pointer none]) rfl rfl (fun w => by kernel_rfl)) ?_
     refine aW (oX [_, _, _, _, _, _, _, _, _, _]) (fun b35 hb35 => ?_)
     refine s5 ?_
     refine kJ [(1, _), (2, _), (3, _), (8, _)] ?_
     refine s3 ?_
     refine JL_bool (fun h37 => ?_) (fun h37 => ?_)
     ·refine s10 ?_
      refine kJ [(1, _), (8, _), (9, _)] ?_
      refine s4 ?_
      refine aP (rp_buildC (fun us => [us.getD 0 undef, us.getD 1 undef]) rfl rfl (fun w => by kernel_rfl)) ?_
      refine aP (rp_buildC (fun us => [us.getD 0 undef, us.getD 1 undef, us.getD 2 undef]) rfl rfl (fun w => by kernel_rfl)) ?_
      refine s3 ?_
      refine aP (rp_buildC (fun us => [us.getD 0 undef, us.getD 1 undef]) rfl rfl (fun w => by kernel_rfl)) ?_
      refine aP (rp_buildC (fun us => [us.getD 0 undef, us.getD 1 undef, us.getD 2 undef]) rfl rfl (fun w => by kernel_rfl)) ?_
      refine aW (ow_sliceC (vs := [_, _, _, _, _, _, _, _]) (ty := 43) rfl rfl (by rfl) rfl rfl (fun _ => by kernel_rfl)) (fun b50 hb50 => ?_)
      refine JL_asOwn (b := b50) (kk := 4) (m := 2) (by repeat constructor) rfl (by omega) ?_
      refine aS (oS (fun w hw => sortedT [(⟨first, 7, power * 72089600, -229376000⟩ : St), ⟨1 - first, 7, power * 72089600, 39976960⟩] _ w (own_arr (A := some ⟨b50, 0, none⟩) (c := 2) (ty := 43) (L := [(⟨first, 7, power * 72089600, -229376000⟩ : St), ⟨1 - first, 7, power * 72089600, 39976960⟩]) ET hw (by repeat constructor) (Nat.le_of_ble_eq_true rfl)) (Nat.le_of_ble_eq_true rfl) (by intro s hs; simp only [List.mem_cons, List.not_mem_nil, or_false] at hs; unfold bnd; rcases hs with rfl | rfl <;> dsimp only <;> omega) (by intro a ha b hb h1 h2; simp only [List.mem_cons, List.not_mem_nil, or_false] at ha hb; rcases ha with rfl | rfl <;> rcases hb with rfl | rfl <;> first | rfl | (dsimp only at h1; omega)))) (fun A51 c51 => ?_)
      refine s6 ?_
      refine kJ [(8, _)] ?_
      refine s7 ?_
      refine JR_two rfl (rr_tmp rfl) (rr_tmp rfl) ?_
      intro w' hw
      have e : goodR (⟨kf, kt, ks, ke, kp⟩ : Cd) first power = 0 := by unfold goodR; rw [if_pos ⟨h12, h16⟩, if_pos ⟨h21, .inr (by omega)⟩]
      unfold RetNew
      rw [e, if_pos rfl]
      exact ⟨(b35, ⟨(⟨kf, kt, ks, ke, kp⟩ : Cd), first, srt [(⟨first, 7, power * 72089600, -229376000⟩ : St), ⟨1 - first, 7, power * 72089600, 39976960⟩], A51, c51, 0, none⟩), ⟨by subst h37; rfl, fun m hm => by cases hm⟩, rfl, hw.pick (by repeat constructor)⟩
     ·refine s6 ?_
      refine J_own0 43 4 ?_
      refine kJ [(8, _)] ?_
      refine s7 ?_
      refine JR_two rfl (rr_tmp rfl) (rr_tmp rfl) ?_
      intro w' hw
      have e : goodR (⟨kf, kt, ks, ke, kp⟩ : Cd) first power = 0 := by unfold goodR; rw [if_pos ⟨h12, h16⟩, if_pos ⟨h21, .inr (by omega)⟩]
      unfold RetNew
      rw [e, if_pos rfl]
      exact ⟨(b35, ⟨(⟨kf, kt, ks, ke, kp⟩ : Cd), first, [], none, 0, 0, none⟩), ⟨by subst h37; rfl, fun m hm => by cases hm⟩, rfl, hw.pick (by repeat constructor)⟩
   ·refine s15 ?_
    refine kJ [] ?_
    refine s8 ?_
    refine JR_two rfl (rr_tmp rfl) (rr_tmp rfl) ?_
    intro w' hw
    have e : goodR (⟨kf, kt, ks, ke, kp⟩ : Cd) first power = 4 := by unfold goodR; rw [if_pos ⟨h12, h16⟩, if_neg (fun h => h21 h.1)]
    unfold RetNew
    rw [e, if_neg (by decide)]
    exact ⟨rfl, hw.bel⟩
  ·refine s7 ?_
   refine kJ [] ?_
   refine s8 ?_
   refine JR_two rfl (rr_tmp rfl) (rr_tmp rfl) ?_
   intro w' hw
   have e : goodR (⟨kf, kt, ks, ke, kp⟩ : Cd) first power = 2 := by unfold goodR; rw [if_neg (fun h => h16 h.2)]
   unfold RetNew
   rw [e, if_neg (by decide)]
   exact ⟨rfl, hw.bel⟩
 ·refine s11 ?_
  refine kJ [] ?_
  refine s8 ?_
  refine JR_two rfl (rr_tmp rfl) (rr_tmp rfl) ?_
  intro w' hw
  have e : goodR (⟨kf, kt, ks, ke, kp⟩ : Cd) first power = 2 := by unfold goodR; rw [if_neg (fun h => by rw [h.1] at h12; cases h12)]
  unfold RetNew
  rw [e, if_neg (by decide)]
  exact ⟨rfl, hw.bel⟩
/-- Why a throw is none, or 0; the ruling about it; the end behind it. -/
def thrE (E : En) (m : List St) (x : Th) : Int := if (nextF E).2.2 ≠ 0 then (nextF E).2.2 else if x.team = (nextF E).1 ∧ x.n = (nextF E).2.1 ∧ thrB E.l m x = true then 0 else 2
def rulE (E : En) (m : List St) (x : Th) : Int := ruleF E.c E.tn E.l m x
def outE (E : En) (m : List St) (x : Th) : List (List St × Bool) := outF E.l m x (rulE E m x)
def thrN (E : En) (m : List St) (x : Th) : En := if (outE E m x).length = 1 then tookE E (((outE E m x).head?).getD ([], false)) else { E with p := some (rulE E m x, choF x (rulE E m x), outE E m x) }
theorem next_iff {E : En} : (nextF E).2.2 = 0 ↔ E.p = none ∧ E.tn ≠ 2 * E.c.e := by
 unfold nextF
 by_cases h1 : E.p.isSome = true ∨ E.tn = 2 * E.c.e
 ·rw [if_pos h1]
  refine ⟨fun h => (by cases h), fun h => ?_⟩
  rcases h1 with h1 | h1
  ·rw [h.1] at h1; cases h1
  ·exact absurd h1 h.2
 ·rw [if_neg h1]
  refine ⟨fun _ => ⟨?_, fun h => h1 (.inr h)⟩, fun _ => rfl⟩
  cases hp : E.p with
  | none => rfl
  | some r => exact absurd (.inl (by rw [hp]; rfl)) h1
theorem thr_why {E : En} {m : List St} {x : Th} (h : thrE E m x ≠ 0) (h0 : ¬ (nextF E).2.2 ≠ 0) : x.team ≠ (nextF E).1 ∨ (x.team = (nextF E).1 ∧ x.n ≠ (nextF E).2.1) ∨ (x.team = (nextF E).1 ∧ x.n = (nextF E).2.1 ∧ thrB E.l m x = false) := by
 unfold thrE at h
 rw [if_neg h0] at h
 by_cases h1 : x.team = (nextF E).1
 ·by_cases h2 : x.n = (nextF E).2.1
  ·refine .inr (.inr ⟨h1, h2, ?_⟩)
   cases h3 : thrB E.l m x with
   | false => rfl
   | true => exact absurd (by rw [if_pos ⟨h1, h2, h3⟩]) h
  ·exact .inr (.inl ⟨h1, h2⟩)
 ·exact .inl h1
theorem thr_2 {E : En} {m : List St} {x : Th} (h : thrE E m x ≠ 0) (h0 : ¬ (nextF E).2.2 ≠ 0) : thrE E m x = 2 := by
 unfold thrE at h ⊢
 rw [if_neg h0] at h ⊢
 split at h
 ·exact absurd rfl h
 ·rename_i h1; rw [if_neg h1]
theorem thr_0 {E : En} {m : List St} {x : Th} (h : thrE E m x = 0) : (nextF E).2.2 = 0 ∧ x.team = (nextF E).1 ∧ x.n = (nextF E).2.1 ∧ thrB E.l m x = true := by
 unfold thrE at h
 by_cases h0 : (nextF E).2.2 ≠ 0
 ·rw [if_pos h0] at h; exact absurd h h0
 ·rw [if_neg h0] at h
  split at h
  ·rename_i h1; exact ⟨Decidable.not_not.1 h0, h1⟩
  ·cases h
theorem oc_arr {W : World} {L : List Oc} {p : Oc} (h : (grpB (L.map rwB)).holds W) (hp : p ∈ L) (hn : p.d.n = p.d.l.length) (hl : p.d.l.length ≤ 16) : Arr 4 eT W (.slice p.d.A p.d.l.length p.d.c) p.d.l := by
 have h2 : (rwB p).holds W := h.1 _ (List.mem_map.2 ⟨p, hp, rfl⟩)
 have h3 : W.ownsRow 0 43 4 (.slice p.d.A p.d.n p.d.c) p.d.n (p.d.l.flatMap eT) := h2
 rw [hn] at h3
 exact Arr.of_own ET h3 (by omega)
theorem thr_one {E : En} {m : List St} {x : Th} {q : List St × Bool} (h : outE E m x = [q]) : thrN E m x = tookE E q := by unfold thrN; rw [h]; rfl
theorem thr_many {E : En} {m : List St} {x : Th} (h : (outE E m x).length ≠ 1) : thrN E m x = { E with p := some (rulE E m x, choF x (rulE E m x), outE E m x) } := by unfold thrN; rw [if_neg h]
set_option maxRecDepth 100000 in
set_option maxHeartbeats 4000000 in
theorem Throw_no (b : Nat) (e : EnM) (m : List St) (x : Th) (A2 : Option Addr) (cap2 : Nat) (w : World) (h : EndW w b e) (hok : EnOk e.pl) (hrow2 : Arr 4 eT w (.slice A2 m.length cap2) m) (hq : thrE e.pl m x ≠ 0) : Calls Tryz.prog 13 #[.pointer (some ⟨b, 0, none⟩), Thv x A2 m.length cap2] w (Back (.tuple #[.agg #[.int .i64 0, .int .i64 0, .slice none 0 0], .int .i64 (thrE e.pl m x)]) w) := by
 obtain ⟨⟨kf, kt, ks, ke, kp⟩, fr, l, sA, sk, tn, pd⟩ := e
 obtain ⟨xteam, xnn, xlate, xshort, xhow⟩ := x
 dsimp only [Thv]
 have hrow20 := hrow2
 refine J_enter (fun _ => False) (vs := [.pointer (some ⟨b, 0, none⟩), .agg #[.int .i64 xteam, .int .i64 xnn, .bool xlate, .bool xshort, .int .i64 xhow, .slice A2 m.length cap2]]) (k := 74) (l := [(0, .pointer (some ⟨b, 0, none⟩)), (1, .agg #[.int .i64 xteam, .int .i64 xnn, .bool xlate, .bool xshort, .int .i64 xhow, .slice A2 m.length cap2])]) Tryz.func13 rfl rfl Tryz.ntmps13 rfl rfl (Wd.start _) ?_
 refine s1 ?_
 rcases pd with _ | pm
 ·have hc : (cellB b [.int .i64 kf, .int .i64 kt, .int .i64 ks, .int .i64 ke, .bool kp, .bool true, .int .i64 fr, .slice sA l.length sk, .int .i64 tn, .pointer none] 68).holds w := h.cell

  refine s1 ?_
  refine aW (oX [_, _, _, _, _, _]) (fun b3 hb3 => ?_)
  refine aW oA (fun b4 hb4 => ?_)
  refine s6 ?_
  refine aCB (fun w hw => Next_any b (⟨⟨kf, kt, ks, ke, kp⟩, fr, l, sA, sk, tn, none⟩ : EnM) w (h.up hw.bel) hok) ?_
  refine s12 ?_
  refine kJ [(0, _), (3, _), (4, _), (6, _), (7, _), (8, _)] ?_
  refine s3 ?_
  refine JL_dec (fun h19 => ?_) (fun h19 => ?_)
  ·refine s5 ?_
   refine kJ [(4, _), (8, _)] ?_
   refine s1 ?_
   refine aP (rp_buildC (fun us => [.int .i64 0, .int .i64 0, .slice none 0 0]) rfl rfl (fun w => by kernel_rfl)) ?_
   refine s8 ?_
   refine JR_two rfl (rr_agg (cs := [_, _, _]) rfl Agg.h (Siz.h (k := 3)) (by repeat constructor) (by rfl)) (rr_tmp rfl) ?_
   intro w' hw
   have e : thrE (EnM.pl (⟨⟨kf, kt, ks, ke, kp⟩, fr, l, sA, sk, tn, none⟩ : EnM)) m (⟨xteam, xnn, xlate, xshort, xhow⟩ : Th) = (nextF (EnM.pl (⟨⟨kf, kt, ks, ke, kp⟩, fr, l, sA, sk, tn, none⟩ : EnM))).2.2 := by unfold thrE; rw [if_pos h19]
   exact ⟨by rw [e], hw.bel⟩
  ·refine s5 ?_
   rcases thr_why hq h19 with h1 | ⟨h1, h2⟩ | ⟨h1, h2, h3⟩
   ·refine kJ [(0, _), (3, _), (4, _), (6, _), (7, _)] ?_
    refine xD [0, 1, 2, 3, 4, 5, 6, 7, 8, 9, 10, 11, 12, 13, 14, 15, 16, 17, 18, 19] [1, 6, 14, 15] ?_
    refine s4 ?_
    refine dDecT ?_ h1
    refine s20 ?_
    refine kJ [(4, _)] ?_
    refine s1 ?_
    refine aP (rp_buildC (fun us => [.int .i64 0, .int .i64 0, .slice none 0 0]) rfl rfl (fun w => by kernel_rfl)) ?_
    refine s7 ?_
    refine JR_two rfl (rr_agg (cs := [_, _, _]) rfl Agg.h (Siz.h (k := 3)) (by repeat constructor) (by rfl)) (rr_tmp rfl) ?_
    intro w' hw
    exact ⟨by rw [thr_2 hq h19], hw.bel⟩
   ·refine kJ [(0, _), (3, _), (4, _), (6, _), (7, _)] ?_
    refine xD [0, 1, 2, 3, 4, 5, 6, 7, 8, 9, 10, 11, 12, 13, 14, 15, 16, 17, 18, 19] [1, 6, 14, 15] ?_
    refine s4 ?_
    refine dDecF ?_ (fun h => h h1)
    refine s5 ?_
    refine dDecT ?_ h2
    refine s15 ?_
    refine kJ [(4, _)] ?_
    refine s1 ?_
    refine aP (rp_buildC (fun us => [.int .i64 0, .int .i64 0, .slice none 0 0]) rfl rfl (fun w => by kernel_rfl)) ?_
    refine s7 ?_
    refine JR_two rfl (rr_agg (cs := [_, _, _]) rfl Agg.h (Siz.h (k := 3)) (by repeat constructor) (by rfl)) (rr_tmp rfl) ?_
    intro w' hw
    exact ⟨by rw [thr_2 hq h19], hw.bel⟩
   ·refine kJ [(0, _), (3, _), (4, _), (6, _), (7, _)] ?_
    refine xD [0, 1, 2, 3, 4, 5, 6, 7, 8, 9, 10, 11, 12, 13, 14, 15, 16, 17, 18, 19] [1, 6, 14, 15] ?_
    refine s4 ?_
    refine dDecF ?_ (fun h => h h1)
    refine s5 ?_
    refine dDecF ?_ (fun h => h h2)
    refine s5 ?_
    refine dL rfl (vOld rfl rfl (fun h => h) (cellB_get hc rfl)) ?_
    refine s1 ?_
    refine dCB rfl (fun w hw => CheckThrow_any l m (⟨xteam, xnn, xlate, xshort, xhow⟩ : Th) _ A2 cap2 w (h.row.up ET hw.bel) (hrow20.up ET hw.bel)) ?_
    refine dBoolF ?_ h3
    refine s7 ?_
    refine kJ [(4, _)] ?_
    refine s1 ?_
    refine aP (rp_buildC (fun us => [.int .i64 0, .int .i64 0, .slice none 0 0]) rfl rfl (fun w => by kernel_rfl)) ?_
    refine s7 ?_
    refine JR_two rfl (rr_agg (cs := [_, _, _]) rfl Agg.h (Siz.h (k := 3)) (by repeat constructor) (by rfl)) (rr_tmp rfl) ?_
    intro w' hw
    exact ⟨by rw [thr_2 hq h19], hw.bel⟩
 ·have hc : (cellB b [.int .i64 kf, .int .i64 kt, .int .i64 ks, .int .i64 ke, .bool kp, .bool true, .int .i64 fr, .slice sA l.length sk, .int .i64 tn, .pointer (some ⟨pm.b, 0, none⟩)] 68).holds w := h.cell

  refine s1 ?_
  refine aW (oX [_, _, _, _, _, _]) (fun b3 hb3 => ?_)
  refine aW oA (fun b4 hb4 => ?_)
  refine s6 ?_
  refine aCB (fun w hw => Next_any b (⟨⟨kf, kt, ks, ke, kp⟩, fr, l, sA, sk, tn, (some pm)⟩ : EnM) w (h.up hw.bel) hok) ?_
  refine s12 ?_
  refine kJ [(0, _), (3, _), (4, _), (6, _), (7, _), (8, _)] ?_
  refine s3 ?_
  refine JL_dec (fun h19 => ?_) (fun h19 => ?_)
  ·refine s5 ?_
   refine kJ [(4, _), (8, _)] ?_
   refine s1 ?_
   refine aP (rp_buildC (fun us => [.int .i64 0, .int .i64 0, .slice none 0 0]) rfl rfl (fun w => by kernel_rfl)) ?_
   refine s8 ?_
   refine JR_two rfl (rr_agg (cs := [_, _, _]) rfl Agg.h (Siz.h (k := 3)) (by repeat constructor) (by rfl)) (rr_tmp rfl) ?_
   intro w' hw
   have e : thrE (EnM.pl (⟨⟨kf, kt, ks, ke, kp⟩, fr, l, sA, sk, tn, (some pm)⟩ : EnM)) m (⟨xteam, xnn, xlate, xshort, xhow⟩ : Th) = (nextF (EnM.pl (⟨⟨kf, kt, ks, ke, kp⟩, fr, l, sA, sk, tn, (some pm)⟩ : EnM))).2.2 := by unfold thrE; rw [if_pos h19]
   exact ⟨by rw [e], hw.bel⟩
  ·refine s5 ?_
   rcases thr_why hq h19 with h1 | ⟨h1, h2⟩ | ⟨h1, h2, h3⟩
   ·refine kJ [(0, _), (3, _), (4, _), (6, _), (7, _)] ?_
    refine xD [0, 1, 2, 3, 4, 5, 6, 7, 8, 9, 10, 11, 12, 13, 14, 15, 16, 17, 18, 19] [1, 6, 14, 15] ?_
    refine s4 ?_
    refine dDecT ?_ h1
    refine s20 ?_
    refine kJ [(4, _)] ?_
    refine s1 ?_
    refine aP (rp_buildC (fun us => [.int .i64 0, .int .i64 0, .slice none 0 0]) rfl rfl (fun w => by kernel_rfl)) ?_
    refine s7 ?_
    refine JR_two rfl (rr_agg (cs := [_, _, _]) rfl Agg.h (Siz.h (k := 3)) (by repeat constructor) (by rfl)) (rr_tmp rfl) ?_
    intro w' hw
    exact ⟨by rw [thr_2 hq h19], hw.bel⟩
   ·refine kJ [(0, _), (3, _), (4, _), (6, _), (7, _)] ?_
    refine xD [0, 1, 2, 3, 4, 5, 6, 7, 8, 9, 10, 11, 12, 13, 14, 15, 16, 17, 18, 19] [1, 6, 14, 15] ?_
    refine s4 ?_
    refine dDecF ?_ (fun h => h h1)
    refine s5 ?_
    refine dDecT ?_ h2
    refine s15 ?_
    refine kJ [(4, _)] ?_
    refine s1 ?_
    refine aP (rp_buildC (fun us => [.int .i64 0, .int .i64 0, .slice none 0 0]) rfl rfl (fun w => by kernel_rfl)) ?_
    refine s7 ?_
    refine JR_two rfl (rr_agg (cs := [_, _, _]) rfl Agg.h (Siz.h (k := 3)) (by repeat constructor) (by rfl)) (rr_tmp rfl) ?_
    intro w' hw
    exact ⟨by rw [thr_2 hq h19], hw.bel⟩
   ·refine kJ [(0, _), (3, _), (4, _), (6, _), (7, _)] ?_
    refine xD [0, 1, 2, 3, 4, 5, 6, 7, 8, 9, 10, 11, 12, 13, 14, 15, 16, 17, 18, 19] [1, 6, 14, 15] ?_
    refine s4 ?_
    refine dDecF ?_ (fun h => h h1)
    refine s5 ?_
    refine dDecF ?_ (fun h => h h2)
    refine s5 ?_
    refine dL rfl (vOld rfl rfl (fun h => h) (cellB_get hc rfl)) ?_
    refine s1 ?_
    refine dCB rfl (fun w hw => CheckThrow_any l m (⟨xteam, xnn, xlate, xshort, xhow⟩ : Th) _ A2 cap2 w (h.row.up ET hw.bel) (hrow20.up ET hw.bel)) ?_
    refine dBoolF ?_ h3
    refine s7 ?_
    refine kJ [(4, _)] ?_
    refine s1 ?_
    refine aP (rp_buildC (fun us => [.int .i64 0, .int .i64 0, .slice none 0 0]) rfl rfl (fun w => by kernel_rfl)) ?_
    refine s7 ?_
    refine JR_two rfl (rr_agg (cs := [_, _, _]) rfl Agg.h (Siz.h (k := 3)) (by repeat constructor) (by rfl)) (rr_tmp rfl) ?_
    intro w' hw
    exact ⟨by rw [thr_2 hq h19], hw.bel⟩
theorem ddP_len : ∀ (L r : List (List St × Bool)), (L.foldl (fun r o => if r.any (fun p => decide (p = o)) = true then r else r ++ [o]) r).length ≤ r.length + L.length
 | [], r => by simp
 | o :: L, r => by
  rw [List.foldl_cons]
  have h := ddP_len L (if r.any (fun p => decide (p = o)) = true then r else r ++ [o])
  refine Nat.le_trans h ?_
  split
  ·simp <;> omega
  ·simp <;> omega
theorem ddP_le (L : List (List St × Bool)) : (ddP L).length ≤ L.length := by have h := ddP_len L []; simpa [ddP] using h
theorem outF_len (l m : List St) (x : Th) (r : Int) : (outF l m x r).length ≤ 3 := by
 unfold outF
 repeat' split
 all_goals exact Nat.le_trans (ddP_le _) (by simp)
set_option maxRecDepth 100000 in
set_option maxHeartbeats 4000000 in
theorem Throw_yes (b : Nat) (e : EnM) (m : List St) (x : Th) (A2 : Option Addr) (cap2 : Nat) (w : World) (h0 : Wd ⟨w, (allI [grpB (endI b e)]).foot, none, []⟩ [grpB (endI b e)] w) (hok : EnOk e.pl) (hx : ∀ W, Wd ⟨w, (allI [grpB (endI b e)]).foot, none, []⟩ [] W → Arr 4 eT W (.slice A2 m.length cap2) m) (hq : thrE e.pl m x = 0) : Calls Tryz.prog 13 #[.pointer (some ⟨b, 0, none⟩), Thv x A2 m.length cap2] w (RetL [grpB (endI b e)] (fun t : EnM × OcT => EnP (thrN e.pl m x) t.1 ∧ OcP (outE e.pl m x) t.2) (fun t => .tuple #[Ruv (rulE e.pl m x) (choF x (rulE e.pl m x)) t.2, .int .i64 0]) (fun t => grpB (endI b t.1) :: ocI t.2) w) := by
 obtain ⟨z0, z1, z2, z3⟩ := thr_0 hq
 obtain ⟨⟨kf, kt, ks, ke, kp⟩, fr, l, sA, sk, tn, pd⟩ := e
 have hp := (next_iff.1 z0).1
 obtain rfl : pd = none := by
  cases pd with
  | none => rfl
  | some m => cases hp
 obtain ⟨xteam, xnn, xlate, xshort, xhow⟩ := x
 have hl16 := hok.l
 have htn := hok.tn
 have he := hok.e
 dsimp only [EnM.pl] at hl16 htn he
 dsimp only [Thv]
 refine J_start (B := ⟨w, (allI [grpB (endI b (⟨⟨kf, kt, ks, ke, kp⟩, fr, l, sA, sk, tn, none⟩ : EnM))]).foot, none, []⟩) rfl rfl (vs := [.pointer (some ⟨b, 0, none⟩), .agg #[.int .i64 xteam, .int .i64 xnn, .bool xlate, .bool xshort, .int .i64 xhow, .slice A2 m.length cap2]]) (k := 74) (l := [(0, .pointer (some ⟨b, 0, none⟩)), (1, .agg #[.int .i64 xteam, .int .i64 xnn, .bool xlate, .bool xshort, .int .i64 xhow, .slice A2 m.length cap2])]) Tryz.func13 rfl rfl Tryz.ntmps13 rfl rfl ((show Wd ⟨w, (allI [grpB (endI b (⟨⟨kf, kt, ks, ke, kp⟩, fr, l, sA, sk, tn, none⟩ : EnM))]).foot, none, []⟩ [cellB b [.int .i64 kf, .int .i64 kt, .int .i64 ks, .int .i64 ke, .bool kp, .bool true, .int .i64 fr, .slice sA l.length sk, .int .i64 tn, .pointer none] 68, ownB 43 4 sA l.length sk (l.flatMap eT)] w from h0.opn (Pk.refl _))) ?_
 refine s2 ?_
 refine aW (oX [_, _, _, _, _, _]) (fun b3 hb3 => ?_)
 refine aW oA (fun b4 hb4 => ?_)
 refine s6 ?_
 refine aCB (fun w hw => Next_any b (⟨⟨kf, kt, ks, ke, kp⟩, fr, l, sA, sk, tn, none⟩ : EnM) w ⟨(hw.ok (cellB b [.int .i64 kf, .int .i64 kt, .int .i64 ks, .int .i64 ke, .bool kp, .bool true, .int .i64 fr, .slice sA l.length sk, .int .i64 tn, .pointer none] 68) (by repeat constructor)).1, own_arr (A := sA) (c := sk) (L := l) ET hw (by repeat constructor) (by omega), fun m hm => by cases hm⟩ hok) ?_
 refine s12 ?_
 refine kJ [(0, _), (3, _), (4, _), (6, _), (7, _), (8, _)] ?_
 refine s3 ?_
 refine aDecF ?_ (fun h => h z0)
 refine s5 ?_
 refine kJ [(0, _), (3, _), (4, _), (6, _), (7, _)] ?_
 refine xD [0, 1, 2, 3, 4, 5, 6, 7, 8, 9, 10, 11, 12, 13, 14, 15, 16, 17, 18, 19] [1, 6, 14, 15] ?_
 refine s4 ?_
 refine dDecF ?_ (fun h => h z1)
 refine s5 ?_
 refine dDecF ?_ (fun h => h z2)
 refine s7 ?_
 refine dCB rfl (fun w hw => CheckThrow_any l m (⟨xteam, xnn, xlate, xshort, xhow⟩ : Th) _ A2 cap2 w (own_arr (A := sA) (c := sk) (L := l) ET hw (by repeat constructor) (by omega)) (hx w (hw.pick (Pk.nil _)))) ?_
 refine dBoolT ?_ z3
 refine s9 ?_
 refine xC (T := Nat × OcT) (fun q => OcP (outE (EnM.pl (⟨⟨kf, kt, ks, ke, kp⟩, fr, l, sA, sk, tn, none⟩ : EnM)) m (⟨xteam, xnn, xlate, xshort, xhow⟩ : Th)) q.2) (fun q => [(0, .pointer (some ⟨b, 0, none⟩)), (4, .pointer (some ⟨b4, 0, none⟩)), (9, .pointer (some ⟨q.1, 0, none⟩))]) (fun q => [cellB b [.int .i64 kf, .int .i64 kt, .int .i64 ks, .int .i64 ke, .bool kp, .bool true, .int .i64 fr, .slice sA l.length sk, .int .i64 tn, .pointer none] 68, ownB 43 4 sA l.length sk (l.flatMap eT), cellB b4 [.int .i64 0, .int .i64 0, .slice none 0 0] 47, cellB q.1 [.int .i64 (rulE (EnM.pl (⟨⟨kf, kt, ks, ke, kp⟩, fr, l, sA, sk, tn, none⟩ : EnM)) m (⟨xteam, xnn, xlate, xshort, xhow⟩ : Th)), .int .i64 (choF (⟨xteam, xnn, xlate, xshort, xhow⟩ : Th) (rulE (EnM.pl (⟨⟨kf, kt, ks, ke, kp⟩, fr, l, sA, sk, tn, none⟩ : EnM)) m (⟨xteam, xnn, xlate, xshort, xhow⟩ : Th))), .slice q.2.A q.2.L.length q.2.c] 47, ownB 82 2 q.2.A q.2.L.length q.2.c (q.2.L.flatMap eO), grpB (q.2.L.map rwB)]) ?_ ?_
 ·refine kJ [(0, _), (3, _), (4, _), (6, _)] ?_
  refine xDx [0, 1, 2, 3, 4, 5, 6, 7, 8, 9, 10, 11, 12, 13, 14] [] [3, 7, 13, 14] [cellB b [.int .i64 kf, .int .i64 kt, .int .i64 ks, .int .i64 ke, .bool kp, .bool true, .int .i64 fr, .slice sA l.length sk, .int .i64 tn, .pointer none] 68, cellB b3 [.int .i64 xteam, .int .i64 xnn, .bool xlate, .bool xshort, .int .i64 xhow, .slice A2 m.length cap2] 38] ?_
  refine s9 ?_
  refine dP rfl (rp_buildC (fun us => [us.getD 0 undef, us.getD 1 undef, us.getD 2 undef]) rfl rfl (fun w => by kernel_rfl)) ?_
  refine s5 ?_
  refine dPair (i := 15) (j := 16) (by kernel_rfl) ?_ ?_
  ·refine St1_mk rfl wAny (oR (fun w hw => (judge_any (⟨kf, kt, ks, ke, kp⟩ : Cd) tn (nextF (EnM.pl (⟨⟨kf, kt, ks, ke, kp⟩, fr, l, sA, sk, tn, none⟩ : EnM))).1 l m (⟨xteam, xnn, xlate, xshort, xhow⟩ : Th) _ A2 cap2 w (own_arr (A := sA) (c := sk) (L := l) ET hw (by repeat constructor) (by omega)) (hx w (hw.pick (Pk.nil _))) (thr_parts z3).1 (thr_parts z3).2.1 (thr_parts z3).2.2.1).mono (fun _ _ hh => by rw [← z1] at hh; exact hh))) (by first | exact trivial | exact ⟨by kernel_rfl, .inl (rfl : waitsB _ [] _ = true)⟩ | exact ⟨by kernel_rfl, .inr ⟨rfl, by repeat constructor⟩⟩) (fun t58 ht58 => ?_)
   dsimp only [ocI, List.cons_append, List.nil_append]
   refine dOA [16, 17] ?_
   refine dW rfl oA (fun b9 hb9 => ?_)
   refine s2 ?_
   exact xE (b9, t58) ht58
  ·refine St1_mk rfl wAny oA (by first | exact trivial | exact ⟨by kernel_rfl, .inl (rfl : waitsB _ [] _ = true)⟩ | exact ⟨by kernel_rfl, .inr ⟨rfl, by repeat constructor⟩⟩) (fun b9 hb9 => ?_)
   refine dOA [15, 17] ?_
   refine dW rfl (oR (fun w hw => (judge_any (⟨kf, kt, ks, ke, kp⟩ : Cd) tn (nextF (EnM.pl (⟨⟨kf, kt, ks, ke, kp⟩, fr, l, sA, sk, tn, none⟩ : EnM))).1 l m (⟨xteam, xnn, xlate, xshort, xhow⟩ : Th) _ A2 cap2 w (own_arr (A := sA) (c := sk) (L := l) ET hw (by repeat constructor) (by omega)) (hx w (hw.pick (Pk.nil _))) (thr_parts z3).1 (thr_parts z3).2.1 (thr_parts z3).2.2.1).mono (fun _ _ hh => by rw [← z1] at hh; exact hh))) (fun t58 ht58 => ?_)
   dsimp only [ocI, List.cons_append, List.nil_append]
   refine s2 ?_
   exact xE (b9, t58) ht58
 ·rintro ⟨b9, ⟨jA, jc, jL⟩⟩ ht58
  dsimp only at ht58 ⊢
  have hjl : jL.length ≤ 3 := by
   have h1 : jL.length = (outE (EnM.pl (⟨⟨kf, kt, ks, ke, kp⟩, fr, l, sA, sk, tn, none⟩ : EnM)) m (⟨xteam, xnn, xlate, xshort, xhow⟩ : Th)).length := by rw [← ht58.1, List.length_map]
   have h2 : (outE (EnM.pl (⟨⟨kf, kt, ks, ke, kp⟩, fr, l, sA, sk, tn, none⟩ : EnM)) m (⟨xteam, xnn, xlate, xshort, xhow⟩ : Th)).length ≤ 3 := outF_len _ _ _ _
   omega
  refine s7 ?_
  refine JL_dec (fun h62 => ?_) (fun h62 => ?_)
  ·refine s4 ?_
   obtain ⟨o, rfl⟩ := List.length_eq_one_iff.1 (show jL.length = 1 by omega)
   obtain ⟨⟨oA, on, ok, ol⟩, og⟩ := o
   obtain ⟨hon, hol⟩ := ht58.2 _ (List.mem_singleton.2 rfl)
   dsimp only at hon hol
   subst hon
   refine J_fact (fun hw => ?_)
   obtain ⟨g, rfl⟩ := own_some hw (ty := 82) (k := 2) (m := 1) (c := jc) (A := jA) (xs := [(⟨⟨oA, ol.length, ok, ol⟩, og⟩ : Oc)].flatMap eO) (by repeat constructor) (by omega)
   clear hw
   refine kJ [(0, _), (4, _), (9, _)] ?_
   refine s4 ?_
   refine aP (pIdxI (0) rfl rfl rfl rfl) ?_
   refine aV (vOwnA (cs := [.slice oA ol.length ok, .bool og]) EO (L := [(⟨⟨oA, ol.length, ok, ol⟩, og⟩ : Oc)]) (j := 0) rfl rfl (by repeat constructor) (Nat.le_of_ble_eq_true rfl) rfl) ?_
   refine aW (oL [cellB b [.int .i64 kf, .int .i64 kt, .int .i64 ks, .int .i64 ke, .bool kp, .bool true, .int .i64 fr, .slice sA l.length sk, .int .i64 tn, .pointer none] 68] [cellB b9 [.int .i64 (rulE (EnM.pl (⟨⟨kf, kt, ks, ke, kp⟩, fr, l, sA, sk, tn, none⟩ : EnM)) m (⟨xteam, xnn, xlate, xshort, xhow⟩ : Th)), .int .i64 (choF (⟨xteam, xnn, xlate, xshort, xhow⟩ : Th) (rulE (EnM.pl (⟨⟨kf, kt, ks, ke, kp⟩, fr, l, sA, sk, tn, none⟩ : EnM)) m (⟨xteam, xnn, xlate, xshort, xhow⟩ : Th))), .slice (some ⟨g, 0, none⟩) 1 jc] 47, ownB 82 2 (some ⟨g, 0, none⟩) 1 jc ([(⟨⟨oA, ol.length, ok, ol⟩, og⟩ : Oc)].flatMap eO), grpB ([(⟨⟨oA, ol.length, ok, ol⟩, og⟩ : Oc)].map rwB), cellB b4 [.int .i64 0, .int .i64 0, .slice none 0 0] 47] (fun w hw h0 => take_any b (⟨⟨kf, kt, ks, ke, kp⟩, fr, l, sA, sk, tn, none⟩ : EnM) oA ol ok og w h0.startL (fun W hW => oc_arr (p := ⟨⟨oA, ol.length, ok, ol⟩, og⟩) (hw.keepL (HA := [cellB b [.int .i64 kf, .int .i64 kt, .int .i64 ks, .int .i64 ke, .bool kp, .bool true, .int .i64 fr, .slice sA l.length sk, .int .i64 tn, .pointer none] 68]) (C := grpB ([(⟨⟨oA, ol.length, ok, ol⟩, og⟩ : Oc)].map rwB)) hW (by repeat constructor) rfl) (List.mem_singleton.2 rfl) rfl hol) hol (by dsimp only; omega))) (fun t68 _ => ?_)
   refine s3 ?_
   refine kJ [(4, _), (9, _)] ?_
   refine s8 ?_
   refine JR_two rfl (rr_agg (cs := [_, _, _]) rfl Agg.h (Siz.h (k := 3)) (by repeat constructor) (by rfl)) (rr_tmp rfl) ?_
   intro w' hw
   have ho := ht58.1
   exact ⟨(⟨⟨kf, kt, ks, ke, kp⟩, fr, ol, t68.1, t68.2, if og = true then tn else tn + 1, none⟩, ⟨some ⟨g, 0, none⟩, jc, [⟨⟨oA, ol.length, ok, ol⟩, og⟩]⟩), ⟨⟨by rw [thr_one (E := EnM.pl (⟨⟨kf, kt, ks, ke, kp⟩, fr, l, sA, sk, tn, none⟩ : EnM)) (m := m) (x := (⟨xteam, xnn, xlate, xshort, xhow⟩ : Th)) ho.symm]; rfl, fun m hm => by cases hm⟩, ht58⟩, rfl, hw.close (HA := endI b ⟨⟨kf, kt, ks, ke, kp⟩, fr, ol, t68.1, t68.2, if og = true then tn else tn + 1, none⟩) (H1 := ocI ⟨some ⟨g, 0, none⟩, jc, [⟨⟨oA, ol.length, ok, ol⟩, og⟩]⟩) (by repeat constructor) rfl⟩
  ·refine s6 ?_
   refine kJ [(0, _), (4, _), (9, _)] ?_
   refine s2 ?_
   refine aW (oR (fun w hw => (copied_any (rulE (EnM.pl (⟨⟨kf, kt, ks, ke, kp⟩, fr, l, sA, sk, tn, none⟩ : EnM)) m (⟨xteam, xnn, xlate, xshort, xhow⟩ : Th)) (choF (⟨xteam, xnn, xlate, xshort, xhow⟩ : Th) (rulE (EnM.pl (⟨⟨kf, kt, ks, ke, kp⟩, fr, l, sA, sk, tn, none⟩ : EnM)) m (⟨xteam, xnn, xlate, xshort, xhow⟩ : Th))) jL jA jc w (own_arr (A := jA) (c := jc) (L := jL) EO hw (by repeat constructor) (by omega)) (fun p hp => ⟨by unfold OcW Dv.v; rw [(ht58.2 p hp).1]; exact oc_arr (hw.ok (grpB (jL.map rwB)) (by repeat constructor)).1 hp (ht58.2 p hp).1 (ht58.2 p hp).2, (ht58.2 p hp).2⟩) (by omega)))) (fun t71 ht71 => ?_)
   refine aW oA (fun b10 hb10 => ?_)
   refine s12 ?_
   refine kJ [(4, _), (9, _)] ?_
   refine s7 ?_
   refine JR_two rfl (rr_agg (cs := [_, _, _]) rfl Agg.h (Siz.h (k := 3)) (by repeat constructor) (by rfl)) (rr_tmp rfl) ?_
   intro w' hw
   have ho : jL.map oP = outE (EnM.pl (⟨⟨kf, kt, ks, ke, kp⟩, fr, l, sA, sk, tn, none⟩ : EnM)) m (⟨xteam, xnn, xlate, xshort, xhow⟩ : Th) := ht58.1
   have hne : (outE (EnM.pl (⟨⟨kf, kt, ks, ke, kp⟩, fr, l, sA, sk, tn, none⟩ : EnM)) m (⟨xteam, xnn, xlate, xshort, xhow⟩ : Th)).length ≠ 1 := fun h => h62 (by rw [← ho, List.length_map] at h; omega)
   exact ⟨(⟨⟨kf, kt, ks, ke, kp⟩, fr, l, sA, sk, tn, some ⟨b10, (rulE (EnM.pl (⟨⟨kf, kt, ks, ke, kp⟩, fr, l, sA, sk, tn, none⟩ : EnM)) m (⟨xteam, xnn, xlate, xshort, xhow⟩ : Th)), choF (⟨xteam, xnn, xlate, xshort, xhow⟩ : Th) (rulE (EnM.pl (⟨⟨kf, kt, ks, ke, kp⟩, fr, l, sA, sk, tn, none⟩ : EnM)) m (⟨xteam, xnn, xlate, xshort, xhow⟩ : Th)), t71⟩⟩, ⟨jA, jc, jL⟩), ⟨⟨by rw [thr_many hne]; show (⟨_, _, _, _, some (_, _, t71.L.map oP)⟩ : En) = _; rw [ht71.1, ho]; rfl, fun m hm => by cases hm; exact ht71.2⟩, ht58⟩, rfl, hw.close (HA := endI b ⟨⟨kf, kt, ks, ke, kp⟩, fr, l, sA, sk, tn, some ⟨b10, (rulE (EnM.pl (⟨⟨kf, kt, ks, ke, kp⟩, fr, l, sA, sk, tn, none⟩ : EnM)) m (⟨xteam, xnn, xlate, xshort, xhow⟩ : Th)), choF (⟨xteam, xnn, xlate, xshort, xhow⟩ : Th) (rulE (EnM.pl (⟨⟨kf, kt, ks, ke, kp⟩, fr, l, sA, sk, tn, none⟩ : EnM)) m (⟨xteam, xnn, xlate, xshort, xhow⟩ : Th)), t71⟩⟩) (H1 := ocI ⟨jA, jc, jL⟩) (by repeat constructor) rfl⟩
end Go.Proofs.YtomcpgdpjpjioaaGreat
/- Layer 7: Choose; no end. -/
namespace Go.Proofs.YtomcpgdpjpjioaaGreat
open Go Go.RowKit Go.Proofs
attribute [local irreducible] J JQ JL JA JD

/-- Why nothing may be chosen, or 0. -/
def chsE (E : En) (i : Int) : Int := match E.p with | none => 9 | some r => if 0 ≤ i ∧ i ≤ (r.2.2.length : Int) - 1 then 0 else 7
def chsN (E : En) (i : Int) : En := match E.p with | none => E | some r => tookE E (r.2.2.getD i.toNat ([], false))
set_option maxRecDepth 100000 in
set_option maxHeartbeats 4000000 in
theorem Choose_no (b : Nat) (e : EnM) (i : Int) (w : World) (h : EndW w b e) (hok : EnOk e.pl) (hq : chsE e.pl i ≠ 0) : Calls Tryz.prog 14 #[.pointer (some ⟨b, 0, none⟩), .int .i64 i] w (Back (.int .i64 (chsE e.pl i)) w) := by
 obtain ⟨⟨kf, kt, ks, ke, kp⟩, fr, l, sA, sk, tn, pd⟩ := e
 refine J_enter (fun _ => False) (vs := [.pointer (some ⟨b, 0, none⟩), .int .i64 i]) (k := 38) (l := [(0, .pointer (some ⟨b, 0, none⟩)), (1, .int .i64 i)]) Tryz.func14 rfl rfl Tryz.ntmps14 rfl rfl (Wd.start _) ?_
 refine s1 ?_
 rcases pd with _ | pm
 ·have hc : (cellB b [.int .i64 kf, .int .i64 kt, .int .i64 ks, .int .i64 ke, .bool kp, .bool true, .int .i64 fr, .slice sA l.length sk, .int .i64 tn, .pointer none] 68).holds w := h.cell

  refine s9 ?_
  refine aCB (fun w hw => is_any b kf kt ks ke kp true fr sA l.length sk tn _ w (It.up_cell hc hw.bel)) ?_
  refine aBoolT ?_ rfl
  refine s6 ?_
  refine kJ [(0, _), (1, _)] ?_
  refine s4 ?_
  refine aV (vOld rfl rfl (fun h => h) (cellB_get hc rfl)) ?_
  refine aP (pEqlP (by kernel_rfl) rfl rfl) ?_
  refine aBoolT ?_ rfl
  refine s5 ?_
  refine kJ [] ?_
  refine s7 ?_
  refine JR_one rfl (rr_tmp rfl) ?_
  intro w' hw
  exact ⟨rfl, hw.bel⟩
 ·have hc : (cellB b [.int .i64 kf, .int .i64 kt, .int .i64 ks, .int .i64 ke, .bool kp, .bool true, .int .i64 fr, .slice sA l.length sk, .int .i64 tn, .pointer (some ⟨pm.b, 0, none⟩)] 68).holds w := h.cell
  have hni : ¬ (0 ≤ i ∧ i ≤ ((pm.t.L.length : Nat) : Int) - 1) := fun h => hq (by unfold chsE EnM.pl; dsimp only [Option.map]; rw [List.length_map, if_pos h])
  have hlen := (hok.p (pm.r, pm.h, pm.t.L.map oP) rfl).2.1
  dsimp only at hlen
  rw [List.length_map] at hlen
  refine s9 ?_
  refine aCB (fun w hw => is_any b kf kt ks ke kp true fr sA l.length sk tn _ w (It.up_cell hc hw.bel)) ?_
  refine aBoolT ?_ rfl
  refine s6 ?_
  refine kJ [(0, _), (1, _)] ?_
  refine s4 ?_
  refine aV (vOld rfl rfl (fun h => h) (cellB_get hc rfl)) ?_
  refine aP (pEqlP (by kernel_rfl) rfl rfl) ?_
  refine aBoolF ?_ rfl
  refine s5 ?_
  refine kJ [(0, _), (1, _)] ?_
  refine s5 ?_
  refine aV (vOld rfl rfl (fun h => h) (cellB_get hc rfl)) ?_
  refine s2 ?_
  refine aV (vOld rfl rfl (fun h => h) (cellB_get (h.pd pm rfl).1 rfl)) ?_
  refine s2 ?_
  refine aCB (fun w hw => rwithin _ _ _ w) ?_
  refine aDecF ?_ hni
  refine s6 ?_
  refine kJ [] ?_
  refine s7 ?_
  refine JR_one rfl (rr_tmp rfl) ?_
  intro w' hw
  have e : chsE (EnM.pl (⟨⟨kf, kt, ks, ke, kp⟩, fr, l, sA, sk, tn, (some pm)⟩ : EnM)) i = 7 := by unfold chsE EnM.pl; dsimp only [Option.map]; rw [List.length_map, if_neg hni]
  exact ⟨by rw [e], hw.bel⟩
set_option maxRecDepth 100000 in
set_option maxHeartbeats 4000000 in
theorem Choose_yes (b : Nat) (e : EnM) (i : Int) (w : World) (h0 : Wd ⟨w, (allI [grpB (endI b e)]).foot, none, []⟩ [grpB (endI b e)] w) (hok : EnOk e.pl) (hn : ∀ m, e.p = some m → ∀ p ∈ m.t.L, p.d.n = p.d.l.length ∧ p.d.l.length ≤ 16) (hq : chsE e.pl i = 0) : Calls Tryz.prog 14 #[.pointer (some ⟨b, 0, none⟩), .int .i64 i] w (RetL [grpB (endI b e)] (fun t : EnM => EnP (chsN e.pl i) t) (fun _ => .int .i64 0) (fun t => [grpB (endI b t)]) w) := by
 obtain ⟨⟨kf, kt, ks, ke, kp⟩, fr, l, sA, sk, tn, pd⟩ := e
 rcases pd with _ | ⟨pb, pr, ph, ⟨jA, jc, jL⟩⟩
 ·cases hq
 have hlen := (hok.p (pr, ph, jL.map oP) rfl).2.1
 dsimp only at hlen
 rw [List.length_map] at hlen
 have hin : 0 ≤ i ∧ i ≤ ((jL.length : Nat) : Int) - 1 := by
  unfold chsE EnM.pl at hq
  dsimp only [Option.map] at hq
  rw [List.length_map] at hq
  split at hq
  ·assumption
  ·cases hq
 obtain ⟨k, rfl⟩ : ∃ k : Nat, i = k := ⟨i.toNat, by omega⟩
 have hk : k < jL.length := by omega
 obtain ⟨⟨⟨oA, on, ok, ol⟩, og⟩, hx⟩ : ∃ y, jL[k]'hk = y := ⟨_, rfl⟩
 obtain ⟨hon, hol⟩ := hn _ rfl (⟨⟨oA, on, ok, ol⟩, og⟩ : Oc) (by rw [← hx]; exact List.getElem_mem _)
 dsimp only at hon hol
 subst hon
 have hmx : (⟨⟨oA, ol.length, ok, ol⟩, og⟩ : Oc) ∈ jL := by rw [← hx]; exact List.getElem_mem _
 have htn := hok.tn
 have he := hok.e
 dsimp only [EnM.pl] at htn he
 obtain ⟨g, rfl⟩ : ∃ g, jA = some ⟨g, 0, none⟩ := own_some ⟨_, h0.opn (Pk.refl _)⟩ (ty := 82) (k := 2) (m := jL.length) (c := jc) (A := jA) (xs := jL.flatMap eO) (by repeat constructor) (by omega)
 refine J_start (B := ⟨w, (allI [grpB (endI b (⟨⟨kf, kt, ks, ke, kp⟩, fr, l, sA, sk, tn, (some ⟨pb, pr, ph, ⟨some ⟨g, 0, none⟩, jc, jL⟩⟩)⟩ : EnM))]).foot, none, []⟩) rfl rfl (vs := [.pointer (some ⟨b, 0, none⟩), .int .i64 (k : Nat)]) (k := 38) (l := [(0, .pointer (some ⟨b, 0, none⟩)), (1, .int .i64 (k : Nat))]) Tryz.func14 rfl rfl Tryz.ntmps14 rfl rfl ((show Wd ⟨w, (allI [grpB (endI b (⟨⟨kf, kt, ks, ke, kp⟩, fr, l, sA, sk, tn, (some ⟨pb, pr, ph, ⟨some ⟨g, 0, none⟩, jc, jL⟩⟩)⟩ : EnM))]).foot, none, []⟩ [cellB b [.int .i64 kf, .int .i64 kt, .int .i64 ks, .int .i64 ke, .bool kp, .bool true, .int .i64 fr, .slice sA l.length sk, .int .i64 tn, .pointer (some ⟨pb, 0, none⟩)] 68, ownB 43 4 sA l.length sk (l.flatMap eT), cellB pb [.int .i64 pr, .int .i64 ph, .slice (some ⟨g, 0, none⟩) jL.length jc] 47, ownB 82 2 (some ⟨g, 0, none⟩) jL.length jc (jL.flatMap eO), grpB (jL.map rwB)] w from h0.opn (Pk.refl _))) ?_
 refine s10 ?_
 refine aCB (fun w hw => is_any b kf kt ks ke kp true fr sA l.length sk tn _ w (hw.ok (cellB b [.int .i64 kf, .int .i64 kt, .int .i64 ks, .int .i64 ke, .bool kp, .bool true, .int .i64 fr, .slice sA l.length sk, .int .i64 tn, .pointer (some ⟨pb, 0, none⟩)] 68) (by repeat constructor)).1) ?_
 refine aBoolT ?_ rfl
 refine s6 ?_
 refine kJ [(0, _), (1, _)] ?_
 refine s5 ?_
 refine aP (pEqlP (by kernel_rfl) rfl rfl) ?_
 refine aBoolF ?_ rfl
 refine s5 ?_
 refine kJ [(0, _), (1, _)] ?_
 refine s11 ?_
 refine aCB (fun w hw => rwithin _ _ _ w) ?_
 refine aDecT ?_ (by omega)
 refine s9 ?_
 refine kJ [(0, _), (1, _)] ?_
 refine s10 ?_
 refine aP (pIdxI (k) rfl rfl rfl) ?_
 refine aV (vOwnA (cs := [.slice oA ol.length ok, .bool og]) EO (L := jL) (j := k) rfl rfl (by repeat constructor) hk (by rw [hx]; rfl)) ?_
 refine aW (oL [cellB b [.int .i64 kf, .int .i64 kt, .int .i64 ks, .int .i64 ke, .bool kp, .bool true, .int .i64 fr, .slice sA l.length sk, .int .i64 tn, .pointer (some ⟨pb, 0, none⟩)] 68] [ownB 82 2 (some ⟨g, 0, none⟩) jL.length jc (jL.flatMap eO), grpB (jL.map rwB)] (fun w hw h0 => take_any b (⟨⟨kf, kt, ks, ke, kp⟩, fr, l, sA, sk, tn, (some ⟨pb, pr, ph, ⟨some ⟨g, 0, none⟩, jc, jL⟩⟩)⟩ : EnM) oA ol ok og w h0.startL (fun W hW => oc_arr (p := ⟨⟨oA, ol.length, ok, ol⟩, og⟩) (hw.keepL (HA := [cellB b [.int .i64 kf, .int .i64 kt, .int .i64 ks, .int .i64 ke, .bool kp, .bool true, .int .i64 fr, .slice sA l.length sk, .int .i64 tn, .pointer (some ⟨pb, 0, none⟩)] 68]) (C := grpB (jL.map rwB)) hW (by repeat constructor) rfl) hmx rfl hol) hol (by dsimp only; omega))) (fun t39 _ => ?_)
 refine s3 ?_
 refine kJ [] ?_
 refine s5 ?_
 refine JR_one rfl (rr_tmp rfl) ?_
 intro w' hw
 exact ⟨⟨⟨kf, kt, ks, ke, kp⟩, fr, ol, t39.1, t39.2, if og = true then tn else tn + 1, none⟩, ⟨by unfold chsN; dsimp only [EnM.pl, Option.map]; rw [show ((k : Nat) : Int).toNat = k from Int.toNat_natCast k, List.getD_eq_getElem?_getD, List.getElem?_map, List.getElem?_eq_getElem hk, hx]; rfl, fun m hm => by cases hm⟩, rfl, hw.close (HA := endI b ⟨⟨kf, kt, ks, ke, kp⟩, fr, ol, t39.1, t39.2, if og = true then tn else tn + 1, none⟩) (H1 := []) (by repeat constructor) rfl⟩
set_option maxRecDepth 100000 in
set_option maxHeartbeats 4000000 in
theorem Next_nil (w : World) : Calls Tryz.prog 9 #[.pointer none] w (Back (.tuple #[.int .i64 0, .int .i64 0, .int .i64 1]) w) := by
 refine J_enter (fun _ => False) (vs := [.pointer none]) (k := 33) (l := [(0, .pointer none)]) Tryz.func9 rfl rfl Tryz.ntmps9 rfl rfl (Wd.start _) ?_
 refine s12 ?_
 refine aCB (fun w hw => is_nil w) ?_
 refine aBoolF ?_ rfl
 refine s6 ?_
 refine kJ [] ?_
 refine s9 ?_
 refine JR_three rfl (rr_tmp rfl) (rr_tmp rfl) (rr_tmp rfl) ?_
 intro w' hw
 exact ⟨rfl, hw.bel⟩
set_option maxRecDepth 100000 in
set_option maxHeartbeats 4000000 in
theorem Next_un (b : Nat) (kf kt ks ke : Int) (kp : Bool) (fr : Int) (sA : Option Addr) (sn sk : Nat) (tn : Int) (pd : Option Addr) (w : World) (hc : (cellB b [.int .i64 kf, .int .i64 kt, .int .i64 ks, .int .i64 ke, .bool kp, .bool false, .int .i64 fr, .slice sA sn sk, .int .i64 tn, .pointer pd] 68).holds w) : Calls Tryz.prog 9 #[.pointer (some ⟨b, 0, none⟩)] w (Back (.tuple #[.int .i64 0, .int .i64 0, .int .i64 1]) w) := by
 refine J_enter (fun _ => False) (vs := [.pointer (some ⟨b, 0, none⟩)]) (k := 33) (l := [(0, .pointer (some ⟨b, 0, none⟩))]) Tryz.func9 rfl rfl Tryz.ntmps9 rfl rfl (Wd.start _) ?_
 refine s12 ?_
 refine aCB (fun w hw => is_any b kf kt ks ke kp false fr sA sn sk tn pd w (It.up_cell hc hw.bel)) ?_
 refine aBoolF ?_ rfl
 refine s6 ?_
 refine kJ [] ?_
 refine s9 ?_
 refine JR_three rfl (rr_tmp rfl) (rr_tmp rfl) (rr_tmp rfl) ?_
 intro w' hw
 exact ⟨rfl, hw.bel⟩
set_option maxRecDepth 100000 in
set_option maxHeartbeats 4000000 in
theorem Score_nil (w : World) : Calls Tryz.prog 15 #[.pointer none] w (Back (.tuple #[.int .i64 0, .int .i64 0, .int .i64 1]) w) := by
 refine J_enter (fun _ => False) (vs := [.pointer none]) (k := 20) (l := [(0, .pointer none)]) Tryz.func15 rfl rfl Tryz.ntmps15 rfl rfl (Wd.start _) ?_
 refine s12 ?_
 refine aCB (fun w hw => is_nil w) ?_
 refine aBoolF ?_ rfl
 refine s6 ?_
 refine kJ [] ?_
 refine s9 ?_
 refine JR_three rfl (rr_tmp rfl) (rr_tmp rfl) (rr_tmp rfl) ?_
 intro w' hw
 exact ⟨rfl, hw.bel⟩
set_option maxRecDepth 100000 in
set_option maxHeartbeats 4000000 in
theorem Score_un (b : Nat) (kf kt ks ke : Int) (kp : Bool) (fr : Int) (sA : Option Addr) (sn sk : Nat) (tn : Int) (pd : Option Addr) (w : World) (hc : (cellB b [.int .i64 kf, .int .i64 kt, .int .i64 ks, .int .i64 ke, .bool kp, .bool false, .int .i64 fr, .slice sA sn sk, .int .i64 tn, .pointer pd] 68).holds w) : Calls Tryz.prog 15 #[.pointer (some ⟨b, 0, none⟩)] w (Back (.tuple #[.int .i64 0, .int .i64 0, .int .i64 1]) w) := by
 refine J_enter (fun _ => False) (vs := [.pointer (some ⟨b, 0, none⟩)]) (k := 20) (l := [(0, .pointer (some ⟨b, 0, none⟩))]) Tryz.func15 rfl rfl Tryz.ntmps15 rfl rfl (Wd.start _) ?_
 refine s12 ?_
 refine aCB (fun w hw => is_any b kf kt ks ke kp false fr sA sn sk tn pd w (It.up_cell hc hw.bel)) ?_
 refine aBoolF ?_ rfl
 refine s6 ?_
 refine kJ [] ?_
 refine s9 ?_
 refine JR_three rfl (rr_tmp rfl) (rr_tmp rfl) (rr_tmp rfl) ?_
 intro w' hw
 exact ⟨rfl, hw.bel⟩
set_option maxRecDepth 100000 in
set_option maxHeartbeats 4000000 in
theorem Pending_nil (w : World) : Calls Tryz.prog 22 #[.pointer none] w (Back (.tuple #[.agg #[.int .i64 0, .int .i64 0, .slice none 0 0], .int .i64 1]) w) := by
 refine J_enter (fun _ => False) (vs := [.pointer none]) (k := 22) (l := [(0, .pointer none)]) Tryz.func22 rfl rfl Tryz.ntmps22 rfl rfl (Wd.start _) ?_
 refine s2 ?_
 refine aW oA (fun b2 hb2 => ?_)
 refine s8 ?_
 refine aCB (fun w hw => is_nil w) ?_
 refine aBoolF ?_ rfl
 refine s6 ?_
 refine kJ [(2, _)] ?_
 refine s1 ?_
 refine aP (rp_buildC (fun us => [.int .i64 0, .int .i64 0, .slice none 0 0]) rfl rfl (fun w => by kernel_rfl)) ?_
 refine s7 ?_
 refine JR_two rfl (rr_agg (cs := [_, _, _]) rfl Agg.h (Siz.h (k := 3)) (by repeat constructor) (by rfl)) (rr_tmp rfl) ?_
 intro w' hw
 exact ⟨rfl, hw.bel⟩
set_option maxRecDepth 100000 in
set_option maxHeartbeats 4000000 in
theorem Pending_un (b : Nat) (kf kt ks ke : Int) (kp : Bool) (fr : Int) (sA : Option Addr) (sn sk : Nat) (tn : Int) (pd : Option Addr) (w : World) (hc : (cellB b [.int .i64 kf, .int .i64 kt, .int .i64 ks, .int .i64 ke, .bool kp, .bool false, .int .i64 fr, .slice sA sn sk, .int .i64 tn, .pointer pd] 68).holds w) : Calls Tryz.prog 22 #[.pointer (some ⟨b, 0, none⟩)] w (Back (.tuple #[.agg #[.int .i64 0, .int .i64 0, .slice none 0 0], .int .i64 1]) w) := by
 refine J_enter (fun _ => False) (vs := [.pointer (some ⟨b, 0, none⟩)]) (k := 22) (l := [(0, .pointer (some ⟨b, 0, none⟩))]) Tryz.func22 rfl rfl Tryz.ntmps22 rfl rfl (Wd.start _) ?_
 refine s2 ?_
 refine aW oA (fun b2 hb2 => ?_)
 refine s8 ?_
 refine aCB (fun w hw => is_any b kf kt ks ke kp false fr sA sn sk tn pd w (It.up_cell hc hw.bel)) ?_
 refine aBoolF ?_ rfl
 refine s6 ?_
 refine kJ [(2, _)] ?_
 refine s1 ?_
 refine aP (rp_buildC (fun us => [.int .i64 0, .int .i64 0, .slice none 0 0]) rfl rfl (fun w => by kernel_rfl)) ?_
 refine s7 ?_
 refine JR_two rfl (rr_agg (cs := [_, _, _]) rfl Agg.h (Siz.h (k := 3)) (by repeat constructor) (by rfl)) (rr_tmp rfl) ?_
 intro w' hw
 exact ⟨rfl, hw.bel⟩
set_option maxRecDepth 100000 in
set_option maxHeartbeats 4000000 in
theorem Choose_nil (i : Int) (w : World) : Calls Tryz.prog 14 #[.pointer none, .int .i64 i] w (Back (.int .i64 1) w) := by
 refine J_enter (fun _ => False) (vs := [.pointer none, .int .i64 i]) (k := 38) (l := [(0, .pointer none), (1, .int .i64 i)]) Tryz.func14 rfl rfl Tryz.ntmps14 rfl rfl (Wd.start _) ?_
 refine s10 ?_
 refine aCB (fun w hw => is_nil w) ?_
 refine aBoolF ?_ rfl
 refine s6 ?_
 refine kJ [] ?_
 refine s7 ?_
 refine JR_one rfl (rr_tmp rfl) ?_
 intro w' hw
 exact ⟨rfl, hw.bel⟩
set_option maxRecDepth 100000 in
set_option maxHeartbeats 4000000 in
theorem Choose_un (i : Int) (b : Nat) (kf kt ks ke : Int) (kp : Bool) (fr : Int) (sA : Option Addr) (sn sk : Nat) (tn : Int) (pd : Option Addr) (w : World) (hc : (cellB b [.int .i64 kf, .int .i64 kt, .int .i64 ks, .int .i64 ke, .bool kp, .bool false, .int .i64 fr, .slice sA sn sk, .int .i64 tn, .pointer pd] 68).holds w) : Calls Tryz.prog 14 #[.pointer (some ⟨b, 0, none⟩), .int .i64 i] w (Back (.int .i64 1) w) := by
 refine J_enter (fun _ => False) (vs := [.pointer (some ⟨b, 0, none⟩), .int .i64 i]) (k := 38) (l := [(0, .pointer (some ⟨b, 0, none⟩)), (1, .int .i64 i)]) Tryz.func14 rfl rfl Tryz.ntmps14 rfl rfl (Wd.start _) ?_
 refine s10 ?_
 refine aCB (fun w hw => is_any b kf kt ks ke kp false fr sA sn sk tn pd w (It.up_cell hc hw.bel)) ?_
 refine aBoolF ?_ rfl
 refine s6 ?_
 refine kJ [] ?_
 refine s7 ?_
 refine JR_one rfl (rr_tmp rfl) ?_
 intro w' hw
 exact ⟨rfl, hw.bel⟩
set_option maxRecDepth 100000 in
set_option maxHeartbeats 4000000 in
theorem Throw_nil (xteam xnn : Int) (xlate xshort : Bool) (xhow : Int) (A2 : Option Addr) (n2 cap2 : Nat) (w : World) : Calls Tryz.prog 13 #[.pointer none, .agg #[.int .i64 xteam, .int .i64 xnn, .bool xlate, .bool xshort, .int .i64 xhow, .slice A2 n2 cap2]] w (Back (.tuple #[.agg #[.int .i64 0, .int .i64 0, .slice none 0 0], .int .i64 1]) w) := by
 refine J_enter (fun _ => False) (vs := [.pointer none, .agg #[.int .i64 xteam, .int .i64 xnn, .bool xlate, .bool xshort, .int .i64 xhow, .slice A2 n2 cap2]]) (k := 74) (l := [(0, .pointer none), (1, .agg #[.int .i64 xteam, .int .i64 xnn, .bool xlate, .bool xshort, .int .i64 xhow, .slice A2 n2 cap2])]) Tryz.func13 rfl rfl Tryz.ntmps13 rfl rfl (Wd.start _) ?_
 refine s2 ?_
 refine aW (oX [_, _, _, _, _, _]) (fun b3 hb3 => ?_)
 refine aW oA (fun b4 hb4 => ?_)
 refine s6 ?_
 refine aCB (fun w hw => Next_nil w) ?_
 refine s12 ?_
 refine kJ [(0, _), (3, _), (4, _), (6, _), (7, _), (8, _)] ?_
 refine s3 ?_
 refine aDecT ?_ (by decide)
 refine s5 ?_
 refine kJ [(4, _), (8, _)] ?_
 refine s1 ?_
 refine aP (rp_buildC (fun us => [.int .i64 0, .int .i64 0, .slice none 0 0]) rfl rfl (fun w => by kernel_rfl)) ?_
 refine s8 ?_
 refine JR_two rfl (rr_agg (cs := [_, _, _]) rfl Agg.h (Siz.h (k := 3)) (by repeat constructor) (by rfl)) (rr_tmp rfl) ?_
 intro w' hw
 exact ⟨rfl, hw.bel⟩
set_option maxRecDepth 100000 in
set_option maxHeartbeats 4000000 in
theorem Throw_un (xteam xnn : Int) (xlate xshort : Bool) (xhow : Int) (A2 : Option Addr) (n2 cap2 : Nat) (b : Nat) (kf kt ks ke : Int) (kp : Bool) (fr : Int) (sA : Option Addr) (sn sk : Nat) (tn : Int) (pd : Option Addr) (w : World) (hc : (cellB b [.int .i64 kf, .int .i64 kt, .int .i64 ks, .int .i64 ke, .bool kp, .bool false, .int .i64 fr, .slice sA sn sk, .int .i64 tn, .pointer pd] 68).holds w) : Calls Tryz.prog 13 #[.pointer (some ⟨b, 0, none⟩), .agg #[.int .i64 xteam, .int .i64 xnn, .bool xlate, .bool xshort, .int .i64 xhow, .slice A2 n2 cap2]] w (Back (.tuple #[.agg #[.int .i64 0, .int .i64 0, .slice none 0 0], .int .i64 1]) w) := by
 refine J_enter (fun _ => False) (vs := [.pointer (some ⟨b, 0, none⟩), .agg #[.int .i64 xteam, .int .i64 xnn, .bool xlate, .bool xshort, .int .i64 xhow, .slice A2 n2 cap2]]) (k := 74) (l := [(0, .pointer (some ⟨b, 0, none⟩)), (1, .agg #[.int .i64 xteam, .int .i64 xnn, .bool xlate, .bool xshort, .int .i64 xhow, .slice A2 n2 cap2])]) Tryz.func13 rfl rfl Tryz.ntmps13 rfl rfl (Wd.start _) ?_
 refine s2 ?_
 refine aW (oX [_, _, _, _, _, _]) (fun b3 hb3 => ?_)
 refine aW oA (fun b4 hb4 => ?_)
 refine s6 ?_
 refine aCB (fun w hw => Next_un b kf kt ks ke kp fr sA sn sk tn pd w (It.up_cell hc hw.bel)) ?_
 refine s12 ?_
 refine kJ [(0, _), (3, _), (4, _), (6, _), (7, _), (8, _)] ?_
 refine s3 ?_
 refine aDecT ?_ (by decide)
 refine s5 ?_
 refine kJ [(4, _), (8, _)] ?_
 refine s1 ?_
 refine aP (rp_buildC (fun us => [.int .i64 0, .int .i64 0, .slice none 0 0]) rfl rfl (fun w => by kernel_rfl)) ?_
 refine s8 ?_
 refine JR_two rfl (rr_agg (cs := [_, _, _]) rfl Agg.h (Siz.h (k := 3)) (by repeat constructor) (by rfl)) (rr_tmp rfl) ?_
 intro w' hw
 exact ⟨rfl, hw.bel⟩
set_option maxRecDepth 100000 in
set_option maxHeartbeats 4000000 in
theorem Position_un (b : Nat) (kf kt ks ke : Int) (kp : Bool) (fr : Int) (sA : Option Addr) (sn sk : Nat) (tn : Int) (pd : Option Addr) (w : World) (hc : (cellB b [.int .i64 kf, .int .i64 kt, .int .i64 ks, .int .i64 ke, .bool kp, .bool false, .int .i64 fr, .slice sA sn sk, .int .i64 tn, .pointer pd] 68).holds w) : Calls Tryz.prog 11 #[.pointer (some ⟨b, 0, none⟩)] w (Back (.slice none 0 0) w) := by
 refine J_enter (fun _ => False) (vs := [.pointer (some ⟨b, 0, none⟩)]) (k := 10) (l := [(0, .pointer (some ⟨b, 0, none⟩))]) Tryz.func11 rfl rfl Tryz.ntmps11 rfl rfl (Wd.start _) ?_
 refine s9 ?_
 refine aCB (fun w hw => is_any b kf kt ks ke kp false fr sA sn sk tn pd w (It.up_cell hc hw.bel)) ?_
 refine aBoolF ?_ rfl
 refine s5 ?_
 refine kJ [] ?_
 refine s6 ?_
 refine JR_one rfl (rr_tmp rfl) ?_
 intro w' hw
 exact ⟨rfl, hw.bel⟩
set_option maxRecDepth 100000 in
set_option maxHeartbeats 4000000 in
theorem Thrown_nil (w : World) : Calls Tryz.prog 10 #[.pointer none] w (Back (.int .i64 0) w) := by
 refine J_enter (fun _ => False) (vs := [.pointer none]) (k := 9) (l := [(0, .pointer none)]) Tryz.func10 rfl rfl Tryz.ntmps10 rfl rfl (Wd.start _) ?_
 refine s9 ?_
 refine aCB (fun w hw => is_nil w) ?_
 refine aBoolF ?_ rfl
 refine s5 ?_
 refine kJ [] ?_
 refine s6 ?_
 refine JR_one rfl (rr_tmp rfl) ?_
 intro w' hw
 exact ⟨rfl, hw.bel⟩
end Go.Proofs.YtomcpgdpjpjioaaGreat
/- A range over a function that gives two values. Over any program. -/
namespace Go.Proofs.YtomcpgdpjpjioaaGreat
open Go Go.RowKit Go.Proofs Go.Shelf
section
variable {P : Program} {n : Nat} {B : Bs} {Q : Exit → Act → World → Prop} {l : Sl} {H H' : List It} {c : Code} {w w' : World}
/-- The contract of an iterator f with what it has captured: T the states, Y what it hands out. -/
def Itr2 (P : Program) {T Y : Type} (f : FuncId) (caps : Array Value) (B : Bs) (φ : T → Prop) (HH : T → It → List It) (Yk : T → Y → Prop) (V V2 : Y → Value) (HG : T → Y → It → List It) (Rn : T → T → Prop) (fin ini : T → Prop) : Prop :=
 ∀ (lp : Nat) (X : It) (t0 : T) (W : World), φ t0 → ini t0 → Wd B (HH t0 X) W →
  (∀ t y W1, φ t → Yk t y → Wd B (HG t y X) W1 → ∀ m, YieldAt Fence.wide m P lp #[V y, V2 y] W1 (fun e W2 => e = .returned (.bool true) ∧ ∃ t', Rn t t' ∧ φ t' ∧ Wd B (HH t' X) W2)) →
  Calls P f (#[.func (.yield lp) #[] #[]] ++ caps) W (fun e W' => (∃ v, e = .returned v) ∧ ∃ t, φ t ∧ fin t ∧ Wd B (HH t X) W')
set_option maxHeartbeats 2000000 in
theorem J_range2 {T Y : Type} {g : Operand} {p q : Nat} {assign body : Code} {f : FuncId} {caps : Array Value} [hf : Cf P f] (φ : T → Prop) (HH : T → It → List It) (Yk : T → Y → Prop) (V V2 : Y → Value) (HG : T → Y → It → List It) (Rn : T → T → Prop) (fin ini : T → Prop) {Ds : List Nat} (l1 : Y → Sl)
  (hit : Itr2 P f caps ⟨B.w, B.m, none, []⟩ φ HH Yk V V2 HG Rn fin ini) (t0 : T) (h0 : φ t0) (hi0 : ini t0)
  (has : ∀ lp t y X, φ t → Yk t y → J P n ⟨B.w, B.m, some lp, []⟩ assign (Exit.then (CutP n ⟨B.w, B.m, some lp, []⟩ (fun _ : Unit => True) (fun _ => l1 y) (fun _ => HG t y X)) (fun _ _ _ => False)) ((q, V2 y) :: (p, V y) :: l) (HG t y X))
  (hbd : ∀ lp t y X, φ t → Yk t y → J P n ⟨B.w, B.m, some lp, []⟩ body (Exit.then (CutP n ⟨B.w, B.m, some lp, []⟩ (fun t' => Rn t t' ∧ φ t') (fun _ => []) (fun t' => HH t' X)) (fun _ _ _ => False)) (l1 y) (HG t y X))
  (k : ∀ D t, φ t → fin t → JQ n ⟨B.w, B.m, none, (D :: Ds).map mark⟩ Q .normal l (HH t (defsB (D :: Ds))))
  (hr : B.r = none := by rfl) (hd : B.d = Ds.map mark := by rfl) (hg : evl l g = some (.func (.func f) #[] caps) := by rfl) (hp : Nat.ble n p = false := by rfl) (hq : Nat.ble n q = false := by rfl)
  (hH : Pk (HH t0 (defsB Ds)) H := by repeat constructor) (a1 : ∀ t A C, At A C (HH t A) (HH t C) := by intro t A C; repeat constructor) (a2 : ∀ t y A C, At A C (HG t y A) (HG t y C) := by intro t y A C; repeat constructor) :
  J P n B (.rangeFunc g #[p, q] assign body) Q l H := by
 intro a w ha hw m
 rw [hr]
 have hF := hf.h
 have hw0 : Wd ⟨B.w, B.m, none, []⟩ (HH t0 (defsB Ds)) w := (hw.pick hH).re _ _
 clear hw hH
 refine wpIn_rangeFunc ?_
 intro fn hfn
 obtain ⟨rec, hrec⟩ : ∃ rec : LoopState → Option Code → Loop, rec = fun st pe => { state := st, pending := pe, fn, tmps := a.tmps, params := #[p, q], assign, body, defers := w.heap.size } := ⟨_, rfl⟩
 obtain ⟨W1, hW1⟩ : ∃ W1, (w.alloc (.deferred (some []))).alloc (.loop (rec .ready none)) = W1 := ⟨_, rfl⟩
 have hL1 : W1.heap[w.heap.size + 1]? = some (.loop (rec .ready none)) := by
  rw [← hW1]; have := World.alloc_heap_new (w.alloc (.deferred (some []))) (.loop (rec .ready none)); rwa [World.size_alloc] at this
 have hK1 : W1.heap[w.heap.size]? = some (.deferred (some [])) := by
  rw [← hW1]; exact (Below.heap_alloc _ _ _ (by simp)).trans (World.alloc_heap_new w _)
 have hb1 : Below w.heap.size w W1 := by rw [← hW1]; exact ((Below.refl _ _).alloc (Nat.le_refl _) _).alloc (by simp) _
 have hz1 : W1.heap.size = w.heap.size + 2 := by rw [← hW1]; simp
 have hmem := (a1 t0 (defsB Ds) (defsB Ds)).mem
 have hD0 := hw0.ok _ hmem
 have hnew : w.heap.size ∉ Ds := fun h => Nat.lt_irrefl _ (hD0.2 _ h).2
 have hnew1 : w.heap.size + 1 ∉ Ds := fun h => by have := (hD0.2 _ h).2; omega
 have hw1 : Wd ⟨B.w, B.m, none, []⟩ (HH t0 (loopB (w.heap.size + 1) (rec .ready none) (w.heap.size :: Ds))) W1 := by
  refine hw0.chg (a1 t0 _ _) rfl rfl ⟨hb1.os, hb1.tape, hb1.output, hb1.size, fun b hb _ => hb1.block b hb⟩ ⟨by simp [hnew1], List.nodup_cons.2 ⟨hnew, hD0.1.1⟩, hL1, fun D hD => ?_⟩ (fun b hb => ?_)
  ·rcases List.mem_cons.1 hD with rfl | hD
   ·exact hK1
   ·exact (hb1.block D (hD0.2 D hD).2).trans (hD0.1.2 D hD)
  ·rcases hb with rfl | hb
   ·exact ⟨.inr (by omega), by omega⟩
   ·rcases List.mem_cons.1 hb with rfl | hb
    ·exact ⟨.inr (Nat.le_refl _), by omega⟩
    ·exact ⟨.inl hb, by have := (hD0.2 b hb).2; omega⟩
 refine ⟨w.heap.size + 1, [mark w.heap.size], W1, { target := .fn (.func f) caps, args := #[.func (.yield (w.heap.size + 1)) #[] #[]] }, W1, f,
  #[.func (.yield (w.heap.size + 1)) #[] #[]] ++ caps, W1, ?_, ?_, ?_, ?_, fun h => (by cases h), ?_⟩
 ·rw [← hW1, hrec]; exact run_enterLoop_outer _ _ _ _ _
 ·simp only [resolve, ha.evD hg]
  simp [go_sem]
 ·intro f' _; exact trivial
 ·simp [invoke, go_sem, hF]
 refine (callsIn_wide.2 (hit (w.heap.size + 1) (loopB (w.heap.size + 1) (rec .ready none) (w.heap.size :: Ds)) t0 W1 h0 hi0 hw1 ?_)).mono ?_
 ·intro t y W ht hy hwW m'
  have hX := (hwW.ok _ (a2 t y (loopB (w.heap.size + 1) (rec .ready none) (w.heap.size :: Ds)) (loopB (w.heap.size + 1) (rec .ready none) (w.heap.size :: Ds))).mem).1
  have hl := hX.2.2.1
  have hy1 := run_yield (P := P) (args := #[V y, V2 y]) hl (by rw [hrec]; simp)
  rw [hrec] at hy1
  refine ⟨fn, _, assign, body, hy1, roundIn_of_wpIn trivial ?_⟩
  have hfr : Fr n ((q, V2 y) :: (p, V y) :: l) { tmps := (a.tmps.setIfInBounds p (V y)).setIfInBounds q (V2 y), defers := [] } := by
   have h := (ha.put p (V y) hp).put q (V2 y) hq
   exact ⟨h.size, rfl, h.get⟩
  have hA := has (w.heap.size + 1) t y _ ht hy _ W hfr hwW.un m'
  refine wpIn_mono (Q := NO _) (by simpa [Bs.df, wr, Fence.inRound] using hA) ?_
  intro e a2' w2 hq
  cases e with
  | normal =>
   obtain ⟨_, -, a0, rfl, hf0, hw2⟩ := hq
   have hX2 := (hw2.ok _ (a2 t y (loopB (w.heap.size + 1) (rec .ready none) (w.heap.size :: Ds)) (loopB (w.heap.size + 1) (rec .ready none) (w.heap.size :: Ds))).mem).1
   refine ⟨_, run_beginRound hX2.2.2.1 (by rw [hrec]), ?_⟩
   have hw3 := hw2.loop (L' := { rec .ready none with state := .busy }) (a2 t y _ _)
   refine wpIn_mono (hbd (w.heap.size + 1) t y _ ht hy a0 _ hf0 hw3 m') ?_
   intro e a3 w4 hq
   cases e with
   | normal =>
    obtain ⟨t', ⟨hR, hφ⟩, a4, rfl, -, hw5⟩ := hq
    have hX5 := (hw5.ok _ (a1 t' (loopB (w.heap.size + 1) { rec .ready none with state := .busy } (w.heap.size :: Ds)) (loopB (w.heap.size + 1) { rec .ready none with state := .busy } (w.heap.size :: Ds))).mem).1
    refine ⟨_, _, run_endRound none hX5.2.2.1, rfl, t', hR, hφ, ?_⟩
    have := hw5.loop (L' := rec .ready none) (a1 t' _ _)
    rw [hrec] at this ⊢
    exact this.un
   | _ => exact hq.elim
  | _ => exact hq.elim
 ·rintro e W2 ⟨⟨u, rfl⟩, t, hφ, hfin, hw2⟩
  have hX2 := (hw2.ok _ (a1 t (loopB (w.heap.size + 1) (rec .ready none) (w.heap.size :: Ds)) (loopB (w.heap.size + 1) (rec .ready none) (w.heap.size :: Ds))).mem).1
  refine ⟨none, _, (run_endLoop hX2.2.2.1 (by rw [hrec]; simp)).trans (by rw [hrec]), ?_⟩
  have hw3 := hw2.loop (L' := { rec .ready none with state := .exhausted }) (a1 t _ _)
  have hX3 := (hw3.ok _ (a1 t (loopB (w.heap.size + 1) { rec .ready none with state := .exhausted } (w.heap.size :: Ds)) (loopB (w.heap.size + 1) { rec .ready none with state := .exhausted } (w.heap.size :: Ds))).mem).1
  have hw4 := hw3.turn (a1 t _ (defsB (w.heap.size :: Ds))) (fun h => (by cases h)) ⟨hX3.2.1, hX3.2.2.2⟩ (fun b hb => .inr hb)
  have hk := k w.heap.size t hφ hfin a _ ha (by rw [hrec] at hw4; exact hw4.un)
  show Q .normal _ _
  have e : ({ B.df a with defers := [mark w.heap.size] ++ (B.df a).defers } : Act) = (⟨B.w, B.m, none, (w.heap.size :: Ds).map mark⟩ : Bs).df a := by
   simp [Bs.df, hd]
  rw [e]
  exact hk
variable {ops : Array Oper} {rest : List Oper} {o : Oper}
/-- In a region with a call of yield: a call that leaves all as it lay; yield with two values; what is known. -/
theorem iC {f : FuncId} {args : Array Value} {v : Value} {d : Nat} (he : EC P n l o f args) (hC : ∀ w, Wd B H w → Calls P f args w (fun e w' => e = .returned v ∧ Below w.heap.size w w')) (k : JLi P n B ops Q rest ((d, v) :: l) H) (hnd : isDef o.op = false := by rfl) (hd : o.dst = some d := by rfl) (hW : WN ops n l o true := by exact wAny) (hn : Nat.ble n d = false := by rfl) : JLi P n B ops Q (o :: rest) l H := fun a w ha hw m =>
 wpListIn_step (fun K hK => by
  rw [if_pos (hW.D ha)]
  unfold Oper.wpIn
  refine ⟨fun _ _ => trivial, ?_⟩
  rw [Oper.semAt_plain _ _ _ (fun c hc => by rw [hc] at hnd; cases hnd), show (execOp (B.df a).eval o).run P w = .ok (.enter f args) w from he a w ha]
  refine ⟨fun h => (by cases h), (callsIn_wide (n := m - 1)).2 ((hC w hw).mono ?_)⟩
  rintro e W2 ⟨rfl, hb⟩
  show K ((B.df a).put o.dst v) W2
  rw [hd]
  exact hK _ _ (by rw [Bs.df_put]; exact k _ _ (ha.put d v hn) (hw.up hb) m))
theorem iKT {d : Nat} {p : Prop} [Decidable p] (hp : p) (k : JLi P n B ops Q rest ((d, .bool true) :: l) H) : JLi P n B ops Q rest ((d, .bool (decide p)) :: l) H := fun a w ha hw m => k a w (Fr.known (decide_eq_true hp) ha) hw m
theorem iY2 {T : Type} {φ : T → Prop} {HH : T → List It} {ts : Array TypeId} {x y z : Operand} {lp d : Nat} {v u : Value} (hY : ∀ W, Wd B H W → ∀ m, YieldAt Fence.wide m P lp #[v, u] W (fun e W2 => e = .returned (.bool true) ∧ ∃ t', φ t' ∧ Wd B (HH t') W2))
 (k : ∀ t', φ t' → JLi P n B ops Q rest ((d, .bool true) :: l) (HH t')) (ho : o.op = .call { callee := .value x, args := #[y, z], argTypes := ts } := by rfl) (hx : evl l x = some (.func (.yield lp) #[] #[]) := by rfl) (hy : evl l y = some v := by rfl) (hz : evl l z = some u := by rfl) (hd : o.dst = some d := by rfl) (hW : WN ops n l o true := by exact wAny) (hn : Nat.ble n d = false := by rfl) :
 JLi P n B ops Q (o :: rest) l H := fun a w ha hw m =>
 wpListIn_step (fun K hK => by
  rw [if_pos (hW.D ha)]
  obtain ⟨fn, tmps, assign, body, h1, h2⟩ := hY w hw (m - 1)
  have he : (execOp (B.df a).eval o).run P w = .ok (.round lp fn tmps assign body) w := by
   unfold execOp; rw [ho]
   simp only [resolve, ha.evD hx, List.map_toArray, List.map_cons, List.map_nil]
   simp [Deferred.ofValue, invoke, ha.evD hy, ha.evD hz, h1]
  unfold Oper.wpIn
  refine ⟨fun _ _ => trivial, ?_⟩
  rw [Oper.semAt_plain _ _ _ (fun c hc => by rw [ho] at hc; cases hc), he, Oper.uponIn_round]
  refine ⟨fun h => (by cases h), h2.mono ?_⟩
  rintro e W2 ⟨rfl, t', h3, h4⟩
  show K ((B.df a).put o.dst (.bool true)) W2
  rw [hd]
  exact hK _ _ (by rw [Bs.df_put]; exact k t' h3 _ _ (ha.put d _ hn) h4 m))
theorem YieldAt.mono' {F : Fence} {m : Nat} {P : Program} {l : Nat} {args : Array Value} {W : World} {R R' : Ending → World → Prop} (h : YieldAt F m P l args W R) (hR : ∀ e W, R e W → R' e W) : YieldAt F m P l args W R' := by
 obtain ⟨fn, tmps, assign, body, h1, h2⟩ := h
 exact ⟨fn, tmps, assign, body, h1, h2.mono hR⟩
end
end Go.Proofs.YtomcpgdpjpjioaaGreat
/- Layer 2: the stones in the house. -/
namespace Go.Proofs.YtomcpgdpjpjioaaGreat
open Go Go.RowKit Go.Proofs
attribute [local irreducible] J JQ JL JA JD

/-- Numbers that are not negative, as elements. -/
def eN (n : Nat) : List Value := [.int .i64 (n : Nat)]
theorem EN : Enc 1 eN := ⟨fun _ => rfl, fun x v h => by simp [eN] at h; subst h; rfl⟩
/-- The places, among the first k, of the stones in the house. -/
def hsN (l : List St) (k : Nat) : List Nat := (List.range k).filter (fun i => decide (InH (l.getD i ⟨0, 0, 0, 0⟩).x (l.getD i ⟨0, 0, 0, 0⟩).y))
theorem hsN_s {l : List St} {k : Nat} {x : St} (hk : k < l.length) (hx : l[k]'hk = x) : hsN l (k + 1) = if InH x.x x.y then hsN l k ++ [k] else hsN l k := by
 unfold hsN
 rw [List.range_succ, List.filter_append, List.filter_cons, List.filter_nil]
 have e : l.getD k ⟨0, 0, 0, 0⟩ = x := by rw [List.getD_eq_getElem?_getD, List.getElem?_eq_getElem hk, hx]; rfl
 rw [e]
 by_cases h : InH x.x x.y
 ·rw [if_pos h, decide_eq_true h, if_pos rfl]
 ·rw [if_neg h, decide_eq_false h, if_neg (by decide), List.append_nil]
theorem hsN_len (l : List St) (k : Nat) : (hsN l k).length ≤ k := Nat.le_trans (List.length_filter_le _ _) (by rw [List.length_range]; exact Nat.le_refl _)
theorem hsN_pre (l : List St) {k n : Nat} (h : k ≤ n) : hsN l k <+: hsN l n := by
 induction n with
 | zero => rw [Nat.le_zero.1 h]; exact List.prefix_refl _
 | succ n ih =>
  rcases Nat.lt_or_ge k (n + 1) with h1 | h1
  ·refine (ih (by omega)).trans ?_
   unfold hsN
   rw [List.range_succ, List.filter_append]
   exact List.prefix_append _ _
  ·obtain rfl : k = n + 1 := by omega
   exact List.prefix_refl _
/-- All of them. -/
def hsA (l : List St) : List Nat := hsN l l.length
theorem hsA_take {l : List St} {k : Nat} (h : k ≤ l.length) : (hsA l).take (hsN l k).length = hsN l k := (List.prefix_iff_eq_take.1 (hsN_pre l h)).symm
theorem hsA_at {l : List St} {k : Nat} {x : St} (hk : k < l.length) (hx : l[k]'hk = x) (hi : InH x.x x.y) : (hsN l k).length < (hsA l).length ∧ (hsA l)[(hsN l k).length]? = some k := by
 have h1 := hsN_pre l (show k + 1 ≤ l.length by omega)
 rw [hsN_s hk hx, if_pos hi] at h1
 have h2 := h1.length_le
 rw [List.length_append] at h2
 have h3 : (hsN l k).length < (hsA l).length := Nat.lt_of_lt_of_le (Nat.lt_succ_self _) h2
 refine ⟨h3, ?_⟩
 obtain ⟨r, hr⟩ := h1
 unfold hsA
 rw [← hr, List.append_assoc, List.getElem?_append_right (Nat.le_refl _), Nat.sub_self]; rfl
theorem hs_mem {l : List St} {i k : Nat} (h : i ∈ hsN l k) : i < k ∧ InH (l.getD i ⟨0, 0, 0, 0⟩).x (l.getD i ⟨0, 0, 0, 0⟩).y := by
 unfold hsN at h
 rw [List.mem_filter, List.mem_range] at h
 exact ⟨h.1, of_decide_eq_true h.2⟩
/-- The state of a loop over them: how many were given; a row. -/
structure HsT where
 n : Nat
 A : Option Addr
 c : Nat
abbrev hsX (l : List St) (n : Nat) : List Nat := (hsA l).take n
set_option maxRecDepth 100000 in
set_option maxHeartbeats 4000000 in
theorem housed_any (A : Option Addr) (n cap : Nat) (w : World) : Calls Tryz.prog 99 #[.slice A n cap] w (Ret w (fun _ : Nat => True) (fun b => .func (.func 127) #[] #[.pointer (some ⟨b, 0, none⟩)]) (fun b => [cellB b [.slice A n cap] 35])) := by
 refine J_enter (fun _ => False) (vs := [.slice A n cap]) (k := 3) (l := [(0, .slice A n cap)]) Tryz.func99 rfl rfl Tryz.ntmps99 rfl rfl (Wd.start _) ?_
 refine s2 ?_
 refine aW (oX [_]) (fun b1 hb1 => ?_)
 refine s10 ?_
 refine JR_one rfl (rr_tmp rfl) ?_
 intro w' hw
 exact ⟨b1, trivial, rfl, hw.pick (by repeat constructor)⟩
set_option maxRecDepth 100000 in
set_option maxHeartbeats 4000000 in
theorem housed1_any (l : List St) (A : Option Addr) (cap bh b3 : Nat) (w0 : World) (E1 : It) (hrow : Arr 4 eT w0 (.slice A l.length cap) l) (hok : ∀ s ∈ l, OkS s.x s.y) : Itr2 Tryz.prog (T := HsT) (Y := Nat × St) 127 #[.pointer (some ⟨bh, 0, none⟩)] ⟨w0, fun _ => False, none, []⟩ (fun t => t.n ≤ (hsA l).length) (fun t X => [cellB bh [.slice A l.length cap] 35, E1, cellB b3 [.slice t.A (hsX l t.n).length t.c] 76, ownB 3 1 t.A (hsX l t.n).length t.c ((hsX l t.n).flatMap eN), X]) (fun t y => (hsA l)[t.n]? = some y.1 ∧ l[y.1]? = some y.2) (fun y => .int .i64 (y.1 : Nat)) (fun y => Stv y.2) (fun t _ X => [cellB bh [.slice A l.length cap] 35, E1, cellB b3 [.slice t.A (hsX l t.n).length t.c] 76, ownB 3 1 t.A (hsX l t.n).length t.c ((hsX l t.n).flatMap eN), X]) (fun t t' => t'.n = t.n + 1) (fun t => t.n = (hsA l).length) (fun t => t.n = 0) := by
 intro lp X t0 W h0 hn0 hW hY
 obtain ⟨A', cap', e0, -, ⟨hl, -⟩, hAl⟩ := hrow
 obtain ⟨rfl, -, rfl⟩ : A = A' ∧ True ∧ cap = cap' := by injection e0 with e1 _ e3; exact ⟨e1, trivial, e3⟩
 refine J_start (B := ⟨w0, fun _ => False, none, []⟩) rfl rfl (vs := [.func (.yield lp) #[] #[], .pointer (some ⟨bh, 0, none⟩)]) (k := 22) (l := [(0, .func (.yield lp) #[] #[]), (1, .pointer (some ⟨bh, 0, none⟩))]) Tryz.func127 rfl rfl Tryz.ntmps127 rfl rfl (hW) ?_
 refine s8 ?_
 refine xL (T := Nat × HsT) (fun q => q.1 ≤ l.length ∧ (hsN l q.1).length = q.2.n ∧ q.2.n ≤ (hsA l).length) (fun q => [(0, .func (.yield lp) #[] #[]), (5, .slice A l.length cap), (6, .int .i64 (l.length : Nat)), (7, .int .i64 (q.1 : Nat))]) (fun q => [cellB bh [.slice A l.length cap] 35, E1, cellB b3 [.slice q.2.A (hsX l q.2.n).length q.2.c] 76, ownB 3 1 q.2.A (hsX l q.2.n).length q.2.c ((hsX l q.2.n).flatMap eN), X]) (fun q => l.length - q.1) (0, t0) ⟨Nat.zero_le _, by rw [hn0]; rfl, h0⟩ ?_
 rintro q ⟨hq1, hq2, hq3⟩
 obtain ⟨k, hk⟩ : ∃ k, q.1 = k := ⟨_, rfl⟩
 rw [hk] at hq1 hq2 ⊢
 refine s3 ?_
 refine JL_dec (fun h8 => ?_) (fun h8 => ?_)
 ·refine s9 ?_
  have hltx : k < l.length := by omega
  obtain ⟨bx, qx, rfl, hh⟩ := hAl (by intro e; subst e; simp at hltx)
  obtain ⟨⟨xt, xn, xx, xy⟩, hx⟩ : ∃ y, l[k]'hltx = y := ⟨_, rfl⟩
  have hmx : (⟨xt, xn, xx, xy⟩ : St) ∈ l := by rw [← hx]; exact List.getElem_mem _
  refine s3 ?_
  refine aV (vHoldA (cs := [.int .i64 xt, .int .i64 xn, .int .i64 xx, .int .i64 xy]) ET rfl rfl (fun h => h) hh hltx (by rw [hx]; rfl)) ?_
  refine aW oA (fun b4 hb4 => ?_)
  refine s5 ?_
  by_cases hin : InH xx xy
  ·refine kJ [(0, _), (3, _), (4, _), (5, _), (6, _), (7, _)] ?_
   refine J_regI ?_
   refine iV (RP.rv pAny) ?_
   refine iV vAny ?_
   refine iC (ecF rfl rfl) (fun w hw => zone_any xx xy (hok _ hmx) w) ?_
   refine iV (RP.rv gBin) ?_
   refine iKT ((zone_house xx xy).2 hin) ?_
   refine iV (RP.rv (rp_move rfl rfl)) ?_
   refine iV (RP.rv (rp_move rfl rfl)) ?_
   refine iV (RP.rv (rp_move rfl rfl)) ?_
   refine iV vAny ?_
   refine iY2 (T := HsT) (φ := fun t' => t'.n = q.2.n + 1 ∧ t'.n ≤ (hsA l).length) (HH := fun t' => [cellB bh [.slice (some ⟨bx, qx, none⟩) l.length cap] 35, E1, cellB b3 [.slice t'.A (hsX l t'.n).length t'.c] 76, ownB 3 1 t'.A (hsX l t'.n).length t'.c ((hsX l t'.n).flatMap eN), X]) (fun W1 hW1 m => YieldAt.mono' (hY q.2 (k, (⟨xt, xn, xx, xy⟩ : St)) W1 hq3 ⟨by dsimp only; rw [← hq2]; exact (hsA_at hltx hx hin).2, by dsimp only; rw [List.getElem?_eq_getElem hltx, hx]⟩ (hW1.pick (by repeat constructor)) m) (fun e W2 h => ⟨h.1, h.2.imp fun t' h => ⟨⟨h.1, h.2.1⟩, h.2.2⟩⟩)) (fun t' ht' => ?_)
   obtain ⟨hRn, ht2⟩ := ht'
   refine iV (RP.rv (pNot rfl rfl)) ?_
   refine iV (RP.rv pAny) ?_
   refine iN ?_
   refine s5 ?_
   refine kJ [(0, _), (5, _), (6, _), (7, _)] ?_
   refine s4 ?_
   have hs := hsN_s hltx hx
   rw [if_pos hin] at hs
   exact xR (k + 1, t') ⟨by dsimp only; omega, by dsimp only; rw [hs, List.length_append, hRn, hq2]; rfl, ht2⟩ (by dsimp only; omega) (hl := ⟨rfl, rfl, rfl, (congrArg some (by go_num)), trivial⟩)
  ·refine kJ [(0, _), (3, _), (4, _), (5, _), (6, _), (7, _)] ?_
   refine s3 ?_
   refine aCB (fun w hw => zone_any xx xy (hok _ hmx) w) ?_
   refine s1 ?_
   refine aDecF ?_ (fun h => hin ((zone_house xx xy).1 h))
   refine s13 ?_
   refine kJ [(0, _), (5, _), (6, _), (7, _)] ?_
   refine s4 ?_
   have hs := hsN_s hltx hx
   rw [if_neg hin] at hs
   exact xR (k + 1, q.2) ⟨by dsimp only; omega, by dsimp only; rw [hs]; exact hq2, hq3⟩ (by dsimp only; omega) (hl := ⟨rfl, rfl, rfl, (congrArg some (by go_num)), trivial⟩)
 ·refine s8 ?_
  refine JR_end rfl ?_
  intro w' hw
  obtain rfl : k = l.length := by omega
  exact ⟨⟨_, rfl⟩, q.2, hq3, hq2.symm, hw.pick (by repeat constructor)⟩
end Go.Proofs.YtomcpgdpjpjioaaGreat
/- Layer 2: the nearest stones. -/
namespace Go.Proofs.YtomcpgdpjpjioaaGreat
open Go Go.RowKit Go.Proofs
attribute [local irreducible] J JQ JL JA JD

/-- The square of the distance of a stone by its place. -/
def sqAt (l : List St) (i : Nat) : Int := sqd (l.getD i ⟨0, 0, 0, 0⟩).x (l.getD i ⟨0, 0, 0, 0⟩).y
theorem sqAt_get {l : List St} {i : Nat} {x : St} (h : i < l.length) (hx : l[i]'h = x) : sqAt l i = sqd x.x x.y := by
 unfold sqAt; rw [List.getD_eq_getElem?_getD, List.getElem?_eq_getElem h, hx]; rfl
def cmp3 (a b : Int) : Int := if a < b then -1 else if b < a then 1 else 0
/-- Nearer, or as near and earlier. -/
def lx (key : Nat → Int) (a b : Nat) : Prop := key a < key b ∨ (key a = key b ∧ a < b)
theorem lx_trans {key : Nat → Int} {a b c : Nat} (h : lx key a b) (h' : lx key b c) : lx key a c := by unfold lx at *; omega
theorem swap_list {P R : List Nat} {p x : Nat} : ((P ++ p :: x :: R).set (P.length + 1) p).set P.length x = P ++ x :: p :: R := by
  rw [List.set_append_right _ _ (by omega)]
  have e : P.length + 1 - P.length = 1 := by omega
  rw [e]
  show (P ++ p :: p :: R).set P.length x = _
  rw [List.set_append_right _ _ (Nat.le_refl _), Nat.sub_self]
  rfl
theorem ins_sorted {key : Nat → Int} {P Q : List Nat} {x : Nat} (hS : (P ++ Q).Pairwise (lx key)) (hQ : ∀ y ∈ Q, key x < key y) (hP : ∀ p, P.getLast? = some p → lx key p x) : (P ++ x :: Q).Pairwise (lx key) := by
  rw [List.pairwise_append] at hS ⊢
  obtain ⟨h1, h2, h3⟩ := hS
  refine ⟨h1, List.pairwise_cons.2 ⟨fun y hy => .inl (hQ y hy), h2⟩, ?_⟩
  have hPx : ∀ a ∈ P, lx key a x := by
    intro a ha
    rcases List.eq_nil_or_concat P with rfl | ⟨P', p, rfl⟩
    · cases ha
    · have hp := hP p (by simp)
      rw [List.concat_eq_append, List.mem_append] at ha
      rcases ha with ha | ha
      · rw [List.concat_eq_append, List.pairwise_append] at h1
        exact lx_trans (h1.2.2 a ha p (by simp)) hp
      · rw [List.mem_singleton] at ha; subst ha; exact hp
  intro a ha b hb
  rcases List.mem_cons.1 hb with rfl | hb
  · exact hPx a ha
  · exact h3 a ha b hb


set_option maxRecDepth 100000 in
set_option maxHeartbeats 4000000 in
theorem near1_any (l : List St) (A : Option Addr) (cap b : Nat) (i k : Nat) (w : World) (hc : (cellB b [.slice A l.length cap] 35).holds w) (hrow : Arr 4 eT w (.slice A l.length cap) l) (hi : i < l.length) (hk : k < l.length) (hp : ∀ s ∈ l, Play s.x s.y) : Calls Tryz.prog 101 (#[] ++ #[.int .i64 (i : Nat), .int .i64 (k : Nat)] ++ #[.pointer (some ⟨b, 0, none⟩)]) w (Back (.int .i64 (cmp3 (sqAt l i) (sqAt l k))) w) := by
 obtain ⟨A', cap', e0, -, ⟨hl, -⟩, hAl⟩ := hrow
 obtain ⟨rfl, -, rfl⟩ : A = A' ∧ True ∧ cap = cap' := by injection e0 with e1 _ e3; exact ⟨e1, trivial, e3⟩
 obtain ⟨bx, qx, rfl, hh⟩ := hAl (by intro e; subst e; simp at hi)
 have hltx : i < l.length := hi
 obtain ⟨⟨xt, xn, xx, xy⟩, hx⟩ : ∃ y, l[i]'hltx = y := ⟨_, rfl⟩
 have hmx : (⟨xt, xn, xx, xy⟩ : St) ∈ l := by rw [← hx]; exact List.getElem_mem _
 have hlty : k < l.length := hk
 obtain ⟨⟨yt, yn, yx, yy⟩, hy⟩ : ∃ y, l[k]'hlty = y := ⟨_, rfl⟩
 have hmy : (⟨yt, yn, yx, yy⟩ : St) ∈ l := by rw [← hy]; exact List.getElem_mem _
 refine J_enter (fun _ => False) (vs := [.int .i64 (i : Nat), .int .i64 (k : Nat), .pointer (some ⟨b, 0, none⟩)]) (k := 25) (l := [(0, .int .i64 (i : Nat)), (1, .int .i64 (k : Nat)), (2, .pointer (some ⟨b, 0, none⟩))]) Tryz.func101 rfl rfl Tryz.ntmps101 rfl rfl (Wd.start _) ?_
 refine s6 ?_
 refine xD [0, 1, 2, 3, 4, 6, 7, 8, 9, 10, 5, 11, 12, 13] [0, 4, 6, 10] ?_
 refine dL rfl (vOld rfl rfl (fun h => h) (cellB_get hc rfl)) ?_
 refine s1 ?_
 refine dP rfl (pIdxI (i) rfl rfl rfl) ?_
 refine s1 ?_
 refine dL rfl (vHoldP (i := 2) (m := 2) (cs := [.int .i64 xx, .int .i64 xy]) rfl rfl (fun h => h) hh hltx rfl (by omega) (by rw [hx]; rfl)) ?_
 refine dL rfl (vOld rfl rfl (fun h => h) (cellB_get hc rfl)) ?_
 refine s1 ?_
 refine dP rfl (pIdxI (k) rfl rfl rfl) ?_
 refine s1 ?_
 refine dL rfl (vHoldP (i := 2) (m := 2) (cs := [.int .i64 yx, .int .i64 yy]) rfl rfl (fun h => h) hh hlty rfl (by omega) (by rw [hy]; rfl)) ?_
 refine dCB rfl (fun w hw => square_any xx xy (play_bound (hp _ hmx)) w) ?_
 refine dCB rfl (fun w hw => square_any yx yy (play_bound (hp _ hmy)) w) ?_
 refine s7 ?_
 refine kJ [(6, _), (7, _)] ?_
 refine s4 ?_
 refine JL_dec (fun h23 => ?_) (fun h23 => ?_)
 ·refine s5 ?_
  refine kJ [] ?_
  refine s7 ?_
  refine JR_one rfl (rr_tmp rfl) ?_
  intro w' hw
  exact ⟨by rw [sqAt_get hltx hx, sqAt_get hlty hy]; unfold cmp3; rw [if_pos h23], hw.bel⟩
 ·refine s5 ?_
  refine kJ [(6, _), (7, _)] ?_
  refine s4 ?_
  refine JL_dec (fun h27 => ?_) (fun h27 => ?_)
  ·refine s5 ?_
   refine kJ [] ?_
   refine s7 ?_
   refine JR_one rfl (rr_tmp rfl) ?_
   intro w' hw
   exact ⟨by rw [sqAt_get hltx hx, sqAt_get hlty hy]; unfold cmp3; rw [if_neg h23, if_pos h27], hw.bel⟩
  ·refine s8 ?_
   refine kJ [] ?_
   refine s5 ?_
   refine JR_one rfl (rr_tmp rfl) ?_
   intro w' hw
   exact ⟨by rw [sqAt_get hltx hx, sqAt_get hlty hy]; unfold cmp3; rw [if_neg h23, if_neg h27], hw.bel⟩
set_option maxRecDepth 100000 in
set_option maxHeartbeats 4000000 in
theorem insertion_any (f : FuncId) (caps : Array Value) (key : Nat → Int) (d : List Nat) (g c : Nat) (w : World) [hf : Cf Tryz.prog f] (hA : (ownB 3 1 (some ⟨g, 0, none⟩) d.length c ((d).flatMap eN)).holds w) (hAf : ∀ b, (ownB 3 1 (some ⟨g, 0, none⟩) d.length c ((d).flatMap eN)).foot b → b < w.heap.size) (hinc : d.Pairwise (· < ·)) (hd20 : d.length ≤ 20) (hcl : ∀ i k : Nat, i ∈ d → k ∈ d → ∀ W, Wd ⟨w, (ownB 3 1 (some ⟨g, 0, none⟩) d.length c ((d).flatMap eN)).foot, none, []⟩ [] W → Calls Tryz.prog f (#[] ++ #[.int .i64 (i : Nat), .int .i64 (k : Nat)] ++ caps) W (Back (.int .i64 (cmp3 (key i) (key k))) W)) : Calls Tryz.prog 137 #[.slice (some ⟨g, 0, none⟩) d.length c, .int .i64 0, .int .i64 (d.length : Nat), .func (.func f) #[] caps] w (RetM (ownB 3 1 (some ⟨g, 0, none⟩) d.length c ((d).flatMap eN)) (fun d' : List Nat => d'.Perm d ∧ d'.Pairwise (lx key)) (fun _ => .tuple #[]) (fun d' => ownB 3 1 (some ⟨g, 0, none⟩) d'.length c ((d').flatMap eN)) w) := by
 refine J_start (B := ⟨w, (ownB 3 1 (some ⟨g, 0, none⟩) d.length c ((d).flatMap eN)).foot, none, []⟩) rfl rfl (vs := [.slice (some ⟨g, 0, none⟩) d.length c, .int .i64 0, .int .i64 (d.length : Nat), .func (.func f) #[] caps]) (k := 49) (l := [(0, .slice (some ⟨g, 0, none⟩) d.length c), (1, .int .i64 0), (2, .int .i64 (d.length : Nat)), (3, .func (.func f) #[] caps)]) Tryz.func137 rfl rfl Tryz.ntmps137 rfl rfl (Wd.startM hA hAf) ?_
 refine s8 ?_
 refine xL (T := Nat × List Nat) (fun q => 1 ≤ q.1 ∧ (q.1 ≤ d.length ∨ d.length = 0) ∧ q.2.Perm (d.take q.1) ∧ q.2.Pairwise (lx key)) (fun q => [(0, .slice (some ⟨g, 0, none⟩) d.length c), (1, .int .i64 0), (2, .int .i64 (d.length : Nat)), (3, .func (.func f) #[] caps), (8, .int .i64 (q.1 : Nat))]) (fun q => [ownB 3 1 (some ⟨g, 0, none⟩) d.length c ((q.2 ++ d.drop q.1).flatMap eN)]) (fun q => d.length - q.1) (1, d.take 1) ⟨Nat.le_refl _, by dsimp only; omega, List.Perm.refl _, by dsimp only; cases d with | nil => simp | cons a d => simp⟩ ?_ (hl := ⟨rfl, rfl, rfl, rfl, (congrArg some (by go_num)), trivial⟩) (hH := by (try dsimp only); rw [List.take_append_drop]; repeat constructor)
 rintro ⟨i, S⟩ ⟨hi1, hi2, hS1, hS2⟩
 dsimp only at hi1 hi2 hS1 hS2 ⊢
 refine s6 ?_
 refine JL_dec (fun h14 => ?_) (fun h14 => ?_)
 ·refine s8 ?_
  have hltx : i < d.length := by omega
  obtain ⟨x, hx⟩ : ∃ x, d[i]'hltx = x := ⟨_, rfl⟩
  obtain ⟨T, hT⟩ : ∃ T, d.drop (i + 1) = T := ⟨_, rfl⟩
  have hdr : d.drop i = x :: T := by rw [List.drop_eq_getElem_cons hltx, hx, hT]
  have hlen : S.length = i := by rw [hS1.length_eq, List.length_take]; omega
  have hxm : x ∈ d := by rw [← hx]; exact List.getElem_mem _
  have hgt : ∀ y ∈ S, y < x ∧ y ∈ d := fun y hy => by
   have hy2 := hS1.mem_iff.1 hy
   refine ⟨?_, List.mem_of_mem_take hy2⟩
   have h := hinc
   rw [← List.take_append_drop i d, List.pairwise_append] at h
   exact h.2.2 y hy2 x (by rw [hdr]; simp)
  have hdl : d.length = i + 1 + T.length := by rw [← hT, List.length_drop]; omega
  refine s6 ?_
  refine xL (T := List Nat × List Nat) (fun q => q.1 ++ q.2 = S ∧ ∀ y ∈ q.2, key x < key y) (fun q => [(0, .slice (some ⟨g, 0, none⟩) d.length c), (1, .int .i64 0), (2, .int .i64 (d.length : Nat)), (3, .func (.func f) #[] caps), (8, .int .i64 (i : Nat)), (9, .int .i64 (q.1.length : Nat))]) (fun q => [ownB 3 1 (some ⟨g, 0, none⟩) d.length c ((q.1 ++ x :: (q.2 ++ T)).flatMap eN)]) (fun q => q.1.length) (S, []) ⟨List.append_nil _, fun y hy => by cases hy⟩ ?_ (hl := ⟨rfl, rfl, rfl, rfl, rfl, (by dsimp only; rw [hlen]; rfl), trivial⟩) (hH := by (try dsimp only); rw [List.nil_append, ← hdr]; repeat constructor)
  rintro ⟨P, Q⟩ ⟨hPQ, hQ⟩
  dsimp only at hPQ hQ ⊢
  refine s2 ?_
  have fin : (∀ y, P.getLast? = some y → lx key y x) → (P ++ x :: Q).Perm (d.take (i + 1)) ∧ (P ++ x :: Q).Pairwise (lx key) := fun h => by
   refine ⟨?_, ins_sorted (by rw [hPQ]; exact hS2) hQ h⟩
   rw [List.take_succ_eq_append_getElem hltx, hx]
   refine List.perm_middle.trans ?_
   rw [hPQ]
   exact (hS1.cons x).trans (List.perm_append_singleton _ _).symm
  have hPl : P.length + Q.length = i := by rw [← hlen, ← hPQ, List.length_append]
  rcases List.eq_nil_or_concat P with rfl | ⟨P', p, rfl⟩
  ·obtain ⟨fin1, fin2⟩ := fin (fun y hy => by cases hy)
   refine xD [0, 1, 2, 3, 4, 5, 6, 7, 8, 9, 10, 11, 12, 13, 14, 15, 16] [8, 13] ?_
   refine s3 ?_
   refine dDecF ?_ (by simp)
   refine s23 ?_
   refine kJ [(0, _), (1, _), (2, _), (3, _), (8, _)] ?_
   refine s5 ?_
   exact xR (i + 1, [] ++ x :: Q) ⟨by dsimp only; omega, by dsimp only; omega, fin1, fin2⟩ (by dsimp only; omega) (hl := ⟨rfl, rfl, rfl, rfl, (congrArg some (by go_num)), trivial⟩) (hH := by (try dsimp only); rw [show ([] ++ x :: Q) ++ d.drop (i + 1) = [] ++ x :: (Q ++ T) by rw [hT]; simp]; repeat constructor)
  ·rw [List.concat_eq_append] at *
   have hl2 : (P' ++ [p]).length = P'.length + 1 := by simp
   have e1 : P' ++ [p] ++ x :: (Q ++ T) = (P' ++ p :: x :: (Q ++ T)) := by simp
   have hML : (P' ++ p :: x :: (Q ++ T)).length = d.length := by simp; rw [hl2] at hPl; omega
   have hj0 : P'.length < (P' ++ p :: x :: (Q ++ T)).length := by simp
   have hj1 : P'.length + 1 < (P' ++ p :: x :: (Q ++ T)).length := by simp
   have g0 : (P' ++ p :: x :: (Q ++ T))[P'.length]'hj0 = p := by rw [List.getElem_append_right (by omega)]; simp
   have g1 : (P' ++ p :: x :: (Q ++ T))[P'.length + 1]'hj1 = x := by rw [List.getElem_append_right (by omega)]; simp
   have hsw : ((P' ++ p :: x :: (Q ++ T)).set (P'.length + 1) p).set P'.length x = P' ++ x :: (p :: Q ++ T) := swap_list
   have hpS := hgt p (by rw [← hPQ]; simp)
   rw [e1, hl2]
   refine xD [0, 1, 2, 3, 4, 5, 6, 7, 8, 9, 10, 11, 12, 13, 14, 15] [8, 13] ?_
   refine s3 ?_
   refine dDecT ?_ (by omega)
   refine s4 ?_
   refine dP rfl (pIdxI (P'.length + 1) rfl rfl rfl (by go_num)) ?_
   refine dL rfl (vOwn EN rfl rfl (by repeat constructor) hj1 (by omega) (by rw [g1]; rfl)) ?_
   refine s3 ?_
   refine dP rfl (pIdxI (P'.length) rfl rfl rfl (by go_num)) ?_
   refine dL rfl (vOwn EN rfl rfl (by repeat constructor) hj0 (by omega) (by rw [g0]; rfl)) ?_
   refine dW rfl (ow_callB (ec_val rfl rfl rfl Cf.h) rfl rfl (fun w hw => hcl x p hxm hpS.2 w (hw.pick (Pk.nil _)))) (fun _ _ => ?_)
   refine s1 ?_
   refine dDec (fun h33 => ?_) (fun h33 => ?_)
   ·have hkey : key x < key p := by
     unfold cmp3 at h33
     split at h33
     ·assumption
     ·split at h33 <;> omega
    refine dO [16] ?_
    refine s8 ?_
    refine kJ [(0, _), (1, _), (2, _), (3, _), (8, _), (9, _)] ?_
    refine xD [0, 1, 2, 3, 4, 5, 6, 7, 8, 9, 10, 11, 12, 13, 14, 15, 16, 17] [9, 13] ?_
    refine s8 ?_
    refine dP rfl (pIdxI (P'.length) rfl rfl rfl (by go_num)) ?_
    refine dL rfl (vOwn EN rfl rfl (by repeat constructor) hj0 (by omega) (by rw [g0]; rfl)) ?_
    refine s2 ?_
    refine dP rfl (pIdxI (P'.length + 1) rfl rfl rfl (by go_num)) ?_
    refine dL rfl (vOwn EN rfl rfl (by repeat constructor) hj1 (by omega) (by rw [g1]; rfl)) ?_
    refine dP rfl (pIdxI (P'.length + 1) rfl rfl rfl (by go_num)) ?_
    refine dW0 rfl (oStE EN [_] p (show P'.length + 1 < (P' ++ p :: x :: (Q ++ T)).length from hj1) (hi := Nat.le_refl _) (hr := rfl)) ?_
    refine dP rfl (pIdxI (P'.length) rfl rfl rfl (by go_num)) ?_
    refine dW0 rfl (oStE EN [_] x (show P'.length < ((P' ++ p :: x :: (Q ++ T)).set (P'.length + 1) p).length by rw [List.length_set]; exact hj0) (hi := Nat.le_refl _) (hr := rfl)) ?_
    refine s3 ?_
    refine kJ [(0, _), (1, _), (2, _), (3, _), (8, _), (9, _)] ?_
    refine s5 ?_
    refine xR (P', p :: Q) ⟨by dsimp only; rw [← hPQ, List.append_assoc]; rfl, fun y hy => (List.mem_cons.1 hy).elim (fun h => h ▸ hkey) (hQ y)⟩ (by dsimp only; omega) (hl := ⟨rfl, rfl, rfl, rfl, rfl, (congrArg (fun z => some (Value.int .i64 z)) (by dsimp only; omega)), trivial⟩) (hH := by dsimp only; rw [hsw]; repeat constructor)
   ·obtain ⟨fin1, fin2⟩ := fin (fun y hy => by
     have e : p = y := by simpa using hy
     subst e
     unfold lx
     unfold cmp3 at h33
     split at h33
     ·omega
     ·have := hpS.1; omega)
    refine dO [16] ?_
    refine s10 ?_
    refine kJ [(0, _), (1, _), (2, _), (3, _), (8, _)] ?_
    refine s5 ?_
    exact xR (i + 1, (P' ++ [p]) ++ x :: Q) ⟨by dsimp only; omega, by dsimp only; omega, fin1, fin2⟩ (by dsimp only; omega) (hl := ⟨rfl, rfl, rfl, rfl, (congrArg some (by go_num)), trivial⟩) (hH := by (try dsimp only); rw [show ((P' ++ [p]) ++ x :: Q) ++ d.drop (i + 1) = (P' ++ p :: x :: (Q ++ T)) by rw [hT]; simp]; repeat constructor)
 ·refine s7 ?_
  refine JR_end rfl ?_
  intro w' hw
  have hil : d.length ≤ i := by omega
  have e1 : d.take i = d := List.take_of_length_le hil
  have e2 : d.drop i = [] := List.drop_of_length_le hil
  rw [e1] at hS1
  rw [e2, List.append_nil, ← hS1.length_eq] at hw
  exact ⟨S, ⟨hS1, hS2⟩, rfl, hw.pick (by repeat constructor)⟩
end Go.Proofs.YtomcpgdpjpjioaaGreat
/- Layer 2: the nearest stones, sorted. -/
namespace Go.Proofs.YtomcpgdpjpjioaaGreat
open Go Go.RowKit Go.Proofs
attribute [local irreducible] J JQ JL JA JD

instance : Cf Tryz.prog 128 := ⟨fun _ _ => by kernel_rfl⟩
/-- What a call may have turned, a call of its callee's may have. -/
theorem Wd.nilM {B : Bs} {H : List It} {A : It} {w0 w : World} (hw : Wd B H w0) (hA : A ∈ H) (hr : A.ro = false) (hW : Wd ⟨w0, A.foot, none, []⟩ [] w) : Wd B [] w := by
 refine ⟨hW.os.trans hw.os, hW.tape.trans hw.tape, hW.output.trans hw.output, Nat.le_trans hw.size hW.size, fun b h1 h2 => (hW.block b (Nat.lt_of_lt_of_le h1 hw.size) (fun hf => ?_)).trans (hw.block b h1 h2), fun _ h => (by cases h), List.Pairwise.nil⟩
 rcases ((hw.ok A hA).2 b hf).1 with h | h | h
 ·rw [hr] at h; cases h
 ·exact h2 h
 ·omega
set_option maxRecDepth 100000 in
set_option maxHeartbeats 4000000 in
theorem stable_any (f : FuncId) (caps : Array Value) (key : Nat → Int) (d : List Nat) (g c : Nat) (w : World) [hf : Cf Tryz.prog f] (hA : (ownB 3 1 (some ⟨g, 0, none⟩) d.length c ((d).flatMap eN)).holds w) (hAf : ∀ b, (ownB 3 1 (some ⟨g, 0, none⟩) d.length c ((d).flatMap eN)).foot b → b < w.heap.size) (hinc : d.Pairwise (· < ·)) (hd20 : d.length ≤ 19) (hcl : ∀ i k : Nat, i ∈ d → k ∈ d → ∀ W, Wd ⟨w, (ownB 3 1 (some ⟨g, 0, none⟩) d.length c ((d).flatMap eN)).foot, none, []⟩ [] W → Calls Tryz.prog f (#[] ++ #[.int .i64 (i : Nat), .int .i64 (k : Nat)] ++ caps) W (Back (.int .i64 (cmp3 (key i) (key k))) W)) : Calls Tryz.prog 128 #[.slice (some ⟨g, 0, none⟩) d.length c, .int .i64 (d.length : Nat), .func (.func f) #[] caps] w (RetM (ownB 3 1 (some ⟨g, 0, none⟩) d.length c ((d).flatMap eN)) (fun d' : List Nat => d'.Perm d ∧ d'.Pairwise (lx key)) (fun _ => .tuple #[]) (fun d' => ownB 3 1 (some ⟨g, 0, none⟩) d'.length c ((d').flatMap eN)) w) := by
 refine J_start (B := ⟨w, (ownB 3 1 (some ⟨g, 0, none⟩) d.length c ((d).flatMap eN)).foot, none, []⟩) rfl rfl (vs := [.slice (some ⟨g, 0, none⟩) d.length c, .int .i64 (d.length : Nat), .func (.func f) #[] caps]) (k := 60) (l := [(0, .slice (some ⟨g, 0, none⟩) d.length c), (1, .int .i64 (d.length : Nat)), (2, .func (.func f) #[] caps)]) Tryz.func128 rfl rfl Tryz.ntmps128 rfl rfl (Wd.startM hA hAf) ?_
 refine s14 ?_
 refine xL (T := Unit) (fun _q => True) (fun _q => [(0, .slice (some ⟨g, 0, none⟩) d.length c), (1, .int .i64 (d.length : Nat)), (2, .func (.func f) #[] caps), (6, .int .i64 20), (7, .int .i64 0), (8, .int .i64 20)]) (fun _q => [ownB 3 1 (some ⟨g, 0, none⟩) d.length c ((d).flatMap eN)]) (fun _q => 0) () trivial ?_
 rintro _ -
 refine s6 ?_
 refine aDecF ?_ (by omega)
 refine s9 ?_
 refine kJ [(0, _), (1, _), (2, _), (6, _), (7, _)] ?_
 refine s5 ?_
 refine aW (oM (fun w hw => insertion_any f caps key d g c w (hw.ok (ownB 3 1 (some ⟨g, 0, none⟩) d.length c ((d).flatMap eN)) (by repeat constructor)).1 (fun b hb => ((hw.ok (ownB 3 1 (some ⟨g, 0, none⟩) d.length c ((d).flatMap eN)) (by repeat constructor)).2 b hb).2) hinc (by omega) (fun i k hi hk W hW => hcl i k hi hk W (hw.nilM (A := ownB 3 1 (some ⟨g, 0, none⟩) d.length c ((d).flatMap eN)) (by repeat constructor) rfl hW)))) (fun dd hdd => ?_)
 refine s3 ?_
 refine xL (T := Unit) (fun _q => True) (fun _q => [(0, .slice (some ⟨g, 0, none⟩) d.length c), (1, .int .i64 (d.length : Nat)), (2, .func (.func f) #[] caps), (6, .int .i64 20)]) (fun _q => [ownB 3 1 (some ⟨g, 0, none⟩) dd.length c (dd.flatMap eN)]) (fun _q => 0) () trivial ?_
 rintro _ -
 refine s6 ?_
 refine aDecF ?_ (by omega)
 refine s7 ?_
 refine JR_end rfl ?_
 intro w' hw
 exact ⟨dd, hdd, rfl, hw.pick (by repeat constructor)⟩
set_option maxRecDepth 100000 in
set_option maxHeartbeats 4000000 in
theorem sortStable_any (f : FuncId) (caps : Array Value) (key : Nat → Int) (d : List Nat) (g c : Nat) (w : World) [hf : Cf Tryz.prog f] (hA : (ownB 3 1 (some ⟨g, 0, none⟩) d.length c ((d).flatMap eN)).holds w) (hAf : ∀ b, (ownB 3 1 (some ⟨g, 0, none⟩) d.length c ((d).flatMap eN)).foot b → b < w.heap.size) (hinc : d.Pairwise (· < ·)) (hd20 : d.length ≤ 19) (hcl : ∀ i k : Nat, i ∈ d → k ∈ d → ∀ W, Wd ⟨w, (ownB 3 1 (some ⟨g, 0, none⟩) d.length c ((d).flatMap eN)).foot, none, []⟩ [] W → Calls Tryz.prog f (#[] ++ #[.int .i64 (i : Nat), .int .i64 (k : Nat)] ++ caps) W (Back (.int .i64 (cmp3 (key i) (key k))) W)) : Calls Tryz.prog 100 #[.slice (some ⟨g, 0, none⟩) d.length c, .func (.func f) #[] caps] w (RetM (ownB 3 1 (some ⟨g, 0, none⟩) d.length c ((d).flatMap eN)) (fun d' : List Nat => d'.Perm d ∧ d'.Pairwise (lx key)) (fun _ => .tuple #[]) (fun d' => ownB 3 1 (some ⟨g, 0, none⟩) d'.length c ((d').flatMap eN)) w) := by
 refine J_start (B := ⟨w, (ownB 3 1 (some ⟨g, 0, none⟩) d.length c ((d).flatMap eN)).foot, none, []⟩) rfl rfl (vs := [.slice (some ⟨g, 0, none⟩) d.length c, .func (.func f) #[] caps]) (k := 7) (l := [(0, .slice (some ⟨g, 0, none⟩) d.length c), (1, .func (.func f) #[] caps)]) Tryz.func100 rfl rfl Tryz.ntmps100 rfl rfl (Wd.startM hA hAf) ?_
 refine s5 ?_
 refine aW (oM (fun w hw => stable_any f caps key d g c w (hw.ok (ownB 3 1 (some ⟨g, 0, none⟩) d.length c ((d).flatMap eN)) (by repeat constructor)).1 (fun b hb => ((hw.ok (ownB 3 1 (some ⟨g, 0, none⟩) d.length c ((d).flatMap eN)) (by repeat constructor)).2 b hb).2) hinc hd20 (fun i k hi hk W hW => hcl i k hi hk W (hw.nilM (A := ownB 3 1 (some ⟨g, 0, none⟩) d.length c ((d).flatMap eN)) (by repeat constructor) rfl hW)))) (fun dd hdd => ?_)
 refine s1 ?_
 refine JR_end rfl ?_
 intro w' hw
 exact ⟨dd, hdd, rfl, hw.pick (by repeat constructor)⟩
set_option maxRecDepth 100000 in
set_option maxHeartbeats 4000000 in
theorem insertion_nil (fv : Value) (w : World) : Calls Tryz.prog 137 #[.slice none 0 0, .int .i64 0, .int .i64 0, fv] w (Back (.tuple #[]) w) := by
 refine J_enter (fun _ => False) (vs := [.slice none 0 0, .int .i64 0, .int .i64 0, fv]) (k := 49) (l := [(0, .slice none 0 0), (1, .int .i64 0), (2, .int .i64 0), (3, fv)]) Tryz.func137 rfl rfl Tryz.ntmps137 rfl rfl (Wd.start _) ?_
 refine s8 ?_
 refine xL (T := Unit) (fun _q => True) (fun _q => [(0, .slice none 0 0), (1, .int .i64 0), (2, .int .i64 0), (3, fv), (8, .int .i64 1)]) (fun _q => []) (fun _q => 0) () trivial ?_
 rintro _ -
 refine s6 ?_
 refine aDecF ?_ (by decide)
 refine s7 ?_
 refine JR_end rfl ?_
 intro w' hw
 exact ⟨rfl, hw.bel⟩
set_option maxRecDepth 100000 in
set_option maxHeartbeats 4000000 in
theorem stable_nil (fv : Value) (w : World) : Calls Tryz.prog 128 #[.slice none 0 0, .int .i64 0, fv] w (Back (.tuple #[]) w) := by
 refine J_enter (fun _ => False) (vs := [.slice none 0 0, .int .i64 0, fv]) (k := 60) (l := [(0, .slice none 0 0), (1, .int .i64 0), (2, fv)]) Tryz.func128 rfl rfl Tryz.ntmps128 rfl rfl (Wd.start _) ?_
 refine s14 ?_
 refine xL (T := Unit) (fun _q => True) (fun _q => [(0, .slice none 0 0), (1, .int .i64 0), (2, fv), (6, .int .i64 20), (7, .int .i64 0), (8, .int .i64 20)]) (fun _q => []) (fun _q => 0) () trivial ?_
 rintro _ -
 refine s6 ?_
 refine aDecF ?_ (by decide)
 refine s9 ?_
 refine kJ [(0, _), (1, _), (2, _), (6, _), (7, _)] ?_
 refine s5 ?_
 refine aCB (fun w hw => insertion_nil fv w) ?_
 refine s3 ?_
 refine xL (T := Unit) (fun _q => True) (fun _q => [(0, .slice none 0 0), (1, .int .i64 0), (2, fv), (6, .int .i64 20)]) (fun _q => []) (fun _q => 0) () trivial ?_
 rintro _ -
 refine s6 ?_
 refine aDecF ?_ (by decide)
 refine s7 ?_
 refine JR_end rfl ?_
 intro w' hw
 exact ⟨rfl, hw.bel⟩
set_option maxRecDepth 100000 in
set_option maxHeartbeats 4000000 in
theorem sortStable_nil (fv : Value) (w : World) : Calls Tryz.prog 100 #[.slice none 0 0, fv] w (Back (.tuple #[]) w) := by
 refine J_enter (fun _ => False) (vs := [.slice none 0 0, fv]) (k := 7) (l := [(0, .slice none 0 0), (1, fv)]) Tryz.func100 rfl rfl Tryz.ntmps100 rfl rfl (Wd.start _) ?_
 refine s5 ?_
 refine aCB (fun w hw => stable_nil fv w) ?_
 refine s1 ?_
 refine JR_end rfl ?_
 intro w' hw
 exact ⟨rfl, hw.bel⟩
end Go.Proofs.YtomcpgdpjpjioaaGreat
/- Layer 2: nearest. -/
namespace Go.Proofs.YtomcpgdpjpjioaaGreat
open Go Go.RowKit Go.Proofs
attribute [local irreducible] J JQ JL JA JD

/-- The nearest stones: a list, as a row. -/
structure NrT where
 L : List Nat
 A : Option Addr
 c : Nat
/-- Those of a list's stones that are in the house, the nearest first. -/
def NrP (l : List St) (L : List Nat) : Prop := L.Perm (hsA l) ∧ L.Pairwise (lx (sqAt l))
theorem NrP.uniq {l : List St} {L L' : List Nat} (h : NrP l L) (h' : NrP l L') : L = L' := by
 refine List.Perm.eq_of_pairwise (le := lx (sqAt l)) (fun a b _ _ h1 h2 => ?_) h.2 h'.2 (h.1.trans h'.1.symm)
 unfold lx at h1 h2; omega
theorem hsX_s {l : List St} {n k : Nat} (h : (hsA l)[n]? = some k) : hsX l (n + 1) = hsX l n ++ [k] := by
 obtain ⟨h1, h2⟩ := List.getElem?_eq_some_iff.1 h
 unfold hsX
 rw [List.take_succ_eq_append_getElem h1, h2]
theorem hsX_all (l : List St) : hsX l (hsA l).length = hsA l := List.take_length
theorem hsA_up (l : List St) : (hsA l).Pairwise (· < ·) := by
 unfold hsA hsN
 exact List.pairwise_lt_range.sublist List.filter_sublist
theorem hsA_mem {l : List St} {i : Nat} (h : i ∈ hsA l) : i < l.length := (hs_mem h).1
theorem hsX_len (l : List St) (n : Nat) : (hsX l n).length ≤ l.length := by
 unfold hsX
 exact Nat.le_trans (List.length_take_le' n (hsA l)) (hsN_len l l.length)
theorem own_cs {B : Bs} {H : List It} {ty k m c : Nat} {A : Option Addr} {xs : List Value} (hw : ∃ w, Wd B H w) (hm : ownB ty k A m c xs ∈ H) : (A = none ∧ m = 0 ∧ c = 0) ∨ ∃ g, A = some ⟨g, 0, none⟩ := by
 obtain ⟨w, hw⟩ := hw
 have h : w.ownsRow 0 ty k (.slice A m c) m xs := (hw.ok _ hm).1
 rcases h.2 with ⟨h1, h2⟩ | ⟨g, cap, cur, h1, -⟩
 ·injection h1 with e1 e2 e3
  exact .inl ⟨e1, e2, e3⟩
 ·injection h1 with e1
  exact .inr ⟨g, e1⟩
theorem Wd.keepM {B : Bs} {H : List It} {A C : It} {w0 w : World} (hw : Wd B H w0) (hW : Wd ⟨w0, A.foot, none, []⟩ [] w) (hk : Pk [C, A] H) (hr : C.ro = false) : C.holds w := by
 have h2 := hw.pick hk
 have hs := sepR.out ((List.pairwise_cons.1 h2.sep).1 A (by simp)) hr
 have o := h2.ok C (by simp)
 exact C.st w0 w (fun b hb => hW.block b (o.2 b hb).2 (fun h => hs b hb h)) o.1
theorem Wd.belM2 {H : List It} {A : It} {w0 w1 w : World} {r : Option Nat} {d : List Deferred} (hw : Wd ⟨w0, fun _ => False, r, d⟩ H w1) (hA : A ∈ H) (hAr : A.ro = false) (hW : Wd ⟨w1, A.foot, none, []⟩ [] w) : Below w0.heap.size w0 w := by
 refine ⟨hW.os.trans hw.os, hW.tape.trans hw.tape, hW.output.trans hw.output, Nat.le_trans hw.size hW.size, fun b hlt => (hW.block b (Nat.lt_of_lt_of_le hlt hw.size) (fun hf => ?_)).trans (hw.block b hlt (fun h => h))⟩
 have hlt' : b < w0.heap.size := hlt
 rcases ((hw.ok A hA).2 b hf).1 with h | h | h
 ·rw [hAr] at h; cases h
 ·exact h
 ·have : w0.heap.size ≤ b := h
  omega
set_option maxRecDepth 100000 in
set_option maxHeartbeats 4000000 in
theorem nearest_any (l : List St) (v : Value) (w : World) (hrow : Arr 4 eT w v l) (hok : ∀ s ∈ l, OkS s.x s.y) (hpl : ∀ s ∈ l, Play s.x s.y) (hl9 : l.length ≤ 19) : Calls Tryz.prog 72 #[v] w (Ret w (fun t : NrT => NrP l t.L) (fun t => .slice t.A t.L.length t.c) (fun t => [ownB 3 1 t.A t.L.length t.c (t.L.flatMap eN)])) := by
 have hrow0 := hrow
 obtain ⟨A, cap, rfl, -, ⟨hl, -⟩, hA⟩ := hrow
 refine J_startM (B := bs w) rfl rfl (vs := [.slice A l.length cap]) (k := 16) (l := [(0, .slice A l.length cap)]) Tryz.func72 rfl rfl Tryz.ntmps72 rfl rfl ((Wd.start (bs w))) ?_
 refine s2 ?_
 refine aW (oX [_]) (fun b1 hb1 => ?_)
 refine s5 ?_
 refine aW oA (fun b3 hb3 => ?_)
 refine s4 ?_
 refine J_own0 3 1 ?_
 refine J_defs ?_
 refine s2 ?_
 refine aW (oR (fun w hw => housed_any A l.length cap w)) (fun bh _ => ?_)
 refine s3 ?_
 refine J_range2 (T := HsT) (Y := Nat × St) (Ds := []) (p := 7) (q := 8) (fun t => t.n ≤ (hsA l).length) (fun t X => [cellB bh [.slice A l.length cap] 35, cellB b1 [.slice A l.length cap] 35, cellB b3 [.slice t.A (hsX l t.n).length t.c] 76, ownB 3 1 t.A (hsX l t.n).length t.c ((hsX l t.n).flatMap eN), X]) (fun t y => (hsA l)[t.n]? = some y.1 ∧ l[y.1]? = some y.2) (fun y => .int .i64 (y.1 : Nat)) (fun y => Stv y.2) (fun t y X => [cellB bh [.slice A l.length cap] 35, cellB b1 [.slice A l.length cap] 35, cellB b3 [.slice t.A (hsX l t.n).length t.c] 76, ownB 3 1 t.A (hsX l t.n).length t.c ((hsX l t.n).flatMap eN), X]) (fun t t' => t'.n = t.n + 1) (fun t => t.n = (hsA l).length) (fun t => t.n = 0) (fun y => [(1, .pointer (some ⟨b1, 0, none⟩)), (3, .pointer (some ⟨b3, 0, none⟩)), (4, .int .i64 (y.1 : Nat))]) (housed1_any l A cap bh b3 w (cellB b1 [.slice A l.length cap] 35) hrow0 hok) (⟨0, none, 0⟩) ((Nat.zero_le _)) (rfl) ?_ ?_ ?_
 ·rintro lp t ⟨yk, ys⟩ X ht ⟨hy1, hy2⟩
  dsimp only at hy1 hy2 ⊢
  have hxl := hsX_len l t.n
  refine kJ [(1, _), (3, _), (7, _)] ?_
  refine s3 ?_
  exact xE () trivial
 ·rintro lp t ⟨yk, ys⟩ X ht ⟨hy1, hy2⟩
  dsimp only at hy1 hy2 ⊢
  have hxl := hsX_len l t.n
  refine s4 ?_
  refine aW (ow_sliceC (vs := [_]) (ty := 3) rfl rfl (by rfl) rfl rfl (fun _ => by kernel_rfl)) (fun b11 hb11 => ?_)
  refine aS (oApp (sl := 76) EN (yk)) (fun A12 c12 => ?_)
  refine s3 ?_
  have hs := hsX_s hy1
  exact xE ⟨t.n + 1, A12, c12⟩ ⟨rfl, by have := (List.getElem?_eq_some_iff.1 hy1).1; dsimp only; omega⟩ (hH := by (try dsimp only); rw [hs]; repeat constructor)
 ·rintro D t ht hfin
  refine s3 ?_
  have ht2 : hsX l t.n = hsA l := by rw [hfin]; exact hsX_all l
  rw [ht2]
  refine J_fact (fun hw => ?_)
  rcases own_cs hw (ty := 3) (k := 1) (A := t.A) (m := (hsA l).length) (c := t.c) (xs := (hsA l).flatMap eN) (by repeat constructor) with ⟨hz1, hz2, hz3⟩ | ⟨g, hz1⟩
  ·clear hw
   have hz4 : hsA l = [] := List.length_eq_zero_iff.1 hz2
   rw [hz1, hz3, hz4]
   refine kJ [(1, _), (3, _)] ?_
   refine s3 ?_
   refine aCB (fun w hw => sortStable_nil _ w) ?_
   refine s3 ?_
   refine kJ [(3, _)] ?_
   refine s6 ?_
   refine JR_marks (fun X => [ownB 3 1 none 0 0 [], X]) rfl (fun _ => rr_tmp rfl) ?_
   intro w' hw
   exact ⟨⟨[], none, 0⟩, ⟨by rw [hz4], List.Pairwise.nil⟩, rfl, (hw.un (r' := none) (d' := [])).pick (by repeat constructor)⟩
  ·clear hw
   rw [hz1]
   refine kJ [(1, _), (3, _)] ?_
   refine s3 ?_
   refine aW (oM (fun w hw => sortStable_any 101 #[.pointer (some ⟨b1, 0, none⟩)] (sqAt l) (hsA l) g t.c w (hw.ok (ownB 3 1 (some ⟨g, 0, none⟩) (hsA l).length t.c ((hsA l).flatMap eN)) (by repeat constructor)).1 (fun b hb => ((hw.ok (ownB 3 1 (some ⟨g, 0, none⟩) (hsA l).length t.c ((hsA l).flatMap eN)) (by repeat constructor)).2 b hb).2) (hsA_up l) (by have := hsN_len l l.length; unfold hsA; omega) (fun i k hi hk W hW => near1_any l A cap b1 i k W (hw.keepM (A := ownB 3 1 (some ⟨g, 0, none⟩) (hsA l).length t.c ((hsA l).flatMap eN)) (C := cellB b1 [.slice A l.length cap] 35) hW (by repeat constructor) rfl) (hrow0.up ET (hw.belM2 (A := ownB 3 1 (some ⟨g, 0, none⟩) (hsA l).length t.c ((hsA l).flatMap eN)) (by repeat constructor) rfl hW)) (hsA_mem hi) (hsA_mem hk) hpl))) (fun dd hdd => ?_)
   refine s3 ?_
   refine kJ [(3, _)] ?_
   refine s6 ?_
   refine JR_marks (fun X => [ownB 3 1 (some ⟨g, 0, none⟩) dd.length t.c (dd.flatMap eN), X]) rfl (fun _ => rr_tmp rfl) ?_
   intro w' hw
   have hdl := hdd.1.length_eq
   exact ⟨⟨dd, some ⟨g, 0, none⟩, t.c⟩, hdd, by dsimp only; rw [hdl], (hw.un (r' := none) (d' := [])).pick (by repeat constructor)⟩
end Go.Proofs.YtomcpgdpjpjioaaGreat
/- Layer 2, in plain Lean: the count of the program and that of the document are one. (Carried over from wip/sheet's V, Rc, Cn.) -/
namespace Go.Proofs.YtomcpgdpjpjioaaGreat
open Go Go.RowKit Go.Proofs
def teamAt (l : List St) (i : Nat) : Int := (l.getD i ⟨0, 0, 0, 0⟩).t
/-! V -/
/-- How many of the first lim are nearer than far, from the first one on. -/
def ptsN (l : List St) (d : List Nat) (lim : Nat) (far : Int) : Nat := ((d.take lim).takeWhile fun i => decide (sqAt l i < far)).length

/-- Who counts, by the order d. -/
def cntT (l : List St) (d : List Nat) : Int × Int :=
  match d with
  | [] => (-1, 0)
  | a :: _ =>
    if fidx (fun i => teamAt l i != teamAt l a) d < 0 then (teamAt l a, (d.length : Nat)) else
      if ptsN l d (fidx (fun i => teamAt l i != teamAt l a) d).toNat (sqAt l (d.getD (fidx (fun i => teamAt l i != teamAt l a) d).toNat 0)) = 0 then (-1, 0)
      else (teamAt l a, (ptsN l d (fidx (fun i => teamAt l i != teamAt l a) d).toNat (sqAt l (d.getD (fidx (fun i => teamAt l i != teamAt l a) d).toNat 0)) : Nat))

theorem ptsN_at {l : List St} {d : List Nat} {lim k : Nat} {far : Int} (hl : lim ≤ d.length) (hk : k ≤ lim) (h1 : ∀ j (hj : j < d.length), j < k → sqAt l (d[j]'hj) < far)
    (h2 : k = lim ∨ ∃ h : k < d.length, ¬ sqAt l (d[k]'h) < far) : ptsN l d lim far = k := by
  unfold ptsN
  obtain ⟨p, hp⟩ : ∃ p : Nat → Bool, (fun i => decide (sqAt l i < far)) = p := ⟨_, rfl⟩
  have hp1 : ∀ j (hj : j < d.length), j < k → p (d[j]'hj) = true := fun j hj h => by rw [← hp]; exact decide_eq_true (h1 j hj h)
  have hp2 : k = lim ∨ ∃ h : k < d.length, p (d[k]'h) = false := h2.imp_right fun ⟨h, h3⟩ => ⟨h, by rw [← hp]; exact decide_eq_false h3⟩
  rw [hp]
  clear hp h1 h2
  induction d generalizing lim k with
  | nil => simp at hl; subst hl; simp; omega
  | cons a d ih =>
    cases lim with
    | zero => simp; omega
    | succ lim =>
      rw [List.take_succ_cons]
      cases k with
      | zero =>
        rcases hp2 with h | ⟨h, h3⟩
        · omega
        · simp only [List.getElem_cons_zero] at h3
          rw [List.takeWhile_cons_of_neg (by simp [h3])]; rfl
      | succ k =>
        have h0 := hp1 0 (by simp) (by omega)
        simp only [List.getElem_cons_zero] at h0
        rw [List.takeWhile_cons_of_pos h0, List.length_cons]
        congr 1
        refine ih (lim := lim) (k := k) (by simpa using hl) (by omega) (fun j hj h => ?_) ?_
        · have := hp1 (j + 1) (by simp; omega) (by omega)
          simpa using this
        · rcases hp2 with h | ⟨h, h3⟩
          · exact .inl (by omega)
          · exact .inr ⟨by simpa using h, by simpa using h3⟩

/-! Rc -/
/-- The square of the distance of a team's nearest stone in the house, among the first k. -/
def bT (l : List St) (t : Int) : Nat → Option Int
  | 0 => none
  | k + 1 => if (teamAt l k = t ∧ k ∈ hsA l) ∧ (bT l t k = none ∨ sqAt l k < (bT l t k).getD 0) then some (sqAt l k) else bT l t k

/-- How many of the first k stones are a team's, in the house, and nearer than a limit. -/
def cK (l : List St) (t : Int) (lim : Option Int) : Nat → Nat
  | 0 => 0
  | k + 1 => cK l t lim k + if (teamAt l k = t ∧ k ∈ hsA l) ∧ (lim = none ∨ sqAt l k < lim.getD 0) then 1 else 0

theorem cK_le (l : List St) (t : Int) (lim : Option Int) : ∀ k, cK l t lim k ≤ k
  | 0 => Nat.le_refl _
  | k + 1 => by have := cK_le l t lim k; unfold cK; split <;> omega

/-- Who counts, as the document says it. -/
def refP (l : List St) (x0 x1 : Option Int) : Int × Int :=
  match x0, x1 with
  | none, none => (-1, 0)
  | some _, none => (0, (cK l 0 none l.length : Nat))
  | none, some _ => (1, (cK l 1 none l.length : Nat))
  | some a, some b => if a = b then (-1, 0) else if b < a then (1, (cK l 1 (some a) l.length : Nat)) else (0, (cK l 0 (some b) l.length : Nat))

def refT (l : List St) : Int × Int := refP l (bT l 0 l.length) (bT l 1 l.length)

/-! Cn -/
theorem bT_spec (l : List St) (t : Int) : ∀ k, (bT l t k = none ∧ ∀ i, i < k → i ∈ hsA l → teamAt l i ≠ t) ∨
    (∃ m, bT l t k = some m ∧ (∃ i, i < k ∧ i ∈ hsA l ∧ teamAt l i = t ∧ sqAt l i = m) ∧ ∀ i, i < k → i ∈ hsA l → teamAt l i = t → m ≤ sqAt l i)
  | 0 => .inl ⟨rfl, fun _ h => by omega⟩
  | k + 1 => by
    have ih := bT_spec l t k
    unfold bT
    by_cases hc : (teamAt l k = t ∧ k ∈ hsA l) ∧ (bT l t k = none ∨ sqAt l k < (bT l t k).getD 0)
    · rw [if_pos hc]
      refine .inr ⟨_, rfl, ⟨k, by omega, hc.1.2, hc.1.1, rfl⟩, fun i hi h1 h2 => ?_⟩
      by_cases hik : i = k
      · subst hik; exact Int.le_refl _
      · rcases ih with ⟨h3, h4⟩ | ⟨m, h3, -, h4⟩
        · exact absurd h2 (h4 i (by omega) h1)
        · have := h4 i (by omega) h1 h2
          rw [h3] at hc
          rcases hc.2 with h5 | h5
          · cases h5
          · simp at h5; omega
    · rw [if_neg hc]
      rcases ih with ⟨h3, h4⟩ | ⟨m, h3, ⟨i0, h5, h6, h7, h8⟩, h4⟩
      · refine .inl ⟨h3, fun i hi h1 h2 => ?_⟩
        by_cases hik : i = k
        · subst hik; exact hc ⟨⟨h2, h1⟩, .inl h3⟩
        · exact h4 i (by omega) h1 h2
      · refine .inr ⟨m, h3, ⟨i0, by omega, h6, h7, h8⟩, fun i hi h1 h2 => ?_⟩
        by_cases hik : i = k
        · subst hik
          rcases Int.lt_or_le (sqAt l i) m with h | h
          · exact absurd ⟨⟨h2, h1⟩, .inr (by rw [h3]; exact h)⟩ hc
          · exact h
        · exact h4 i (by omega) h1 h2

theorem cK_filter (l : List St) (t : Int) (lim : Option Int) : ∀ k, cK l t lim k = ((List.range k).filter fun i => decide (i ∈ hsA l) && decide (teamAt l i = t ∧ (lim = none ∨ sqAt l i < lim.getD 0))).length
  | 0 => rfl
  | k + 1 => by
    have ih := cK_filter l t lim k
    unfold cK
    rw [ih, List.range_succ, List.filter_append, List.length_append]
    congr 1
    by_cases hc : (teamAt l k = t ∧ k ∈ hsA l) ∧ (lim = none ∨ sqAt l k < lim.getD 0)
    · rw [if_pos hc]
      simp [hc.1.1, hc.1.2, hc.2]
    · rw [if_neg hc]
      symm
      rw [List.length_eq_zero_iff, List.filter_eq_nil_iff]
      intro i hi
      rw [List.mem_singleton] at hi
      subst hi
      simp only [Bool.and_eq_true, decide_eq_true_eq]
      exact fun h => hc ⟨⟨h.2.1, h.1⟩, h.2.2⟩


theorem near_nodup {l : List St} {d : List Nat} (hd : NrP l d) : d.Nodup :=
  hd.2.imp fun {a b} h e => by subst e; unfold lx at h; omega

theorem cK_near {l : List St} {d : List Nat} (hd : NrP l d) (t : Int) (lim : Option Int) : cK l t lim l.length = (d.filter fun i => decide (teamAt l i = t ∧ (lim = none ∨ sqAt l i < lim.getD 0))).length := by
  rw [cK_filter]
  apply List.Perm.length_eq
  refine (List.perm_ext_iff_of_nodup ((List.nodup_range).filter _) ((near_nodup hd).filter _)).2 fun i => ?_
  simp only [List.mem_filter, List.mem_range, Bool.and_eq_true, decide_eq_true_eq]
  constructor
  · rintro ⟨-, h1, h2⟩
    exact ⟨hd.1.mem_iff.2 h1, h2⟩
  · rintro ⟨h1, h2⟩
    have := hd.1.mem_iff.1 h1
    exact ⟨hsA_mem this, this, h2⟩

theorem fidx_two {α : Type} (p : α → Bool) (l : List α) : (fidx p l = -1 ∧ ∀ j (hj : j < l.length), p (l[j]'hj) = false) ∨
    ∃ k, ∃ hk : k < l.length, fidx p l = k ∧ p (l[k]'hk) = true ∧ ∀ j (hj : j < k), p (l[j]'(by omega)) = false := by
  by_cases h : l.findIdx p < l.length
  · refine .inr ⟨l.findIdx p, h, by unfold fidx; rw [if_pos h], List.findIdx_getElem, fun j hj => ?_⟩
    have := List.not_of_lt_findIdx hj
    simpa using this
  · refine .inl ⟨by unfold fidx; rw [if_neg h], fun j hj => ?_⟩
    have := List.not_of_lt_findIdx (p := p) (xs := l) (i := j) (by omega)
    simpa using this

theorem near_mono {l : List St} {d : List Nat} (hd : NrP l d) {i j : Nat} (hj : j < d.length) (hij : i ≤ j) : sqAt l (d[i]'(by omega)) ≤ sqAt l (d[j]'hj) := by
  by_cases e : i = j
  · subst e; exact Int.le_refl _
  · have := List.pairwise_iff_getElem.1 hd.2 i j (by omega) hj (by omega)
    unfold lx at this; omega

/-- A team's nearest stone, by the order d. -/
theorem bT_none {l : List St} {d : List Nat} (hd : NrP l d) {t : Int} (h : ∀ i ∈ d, teamAt l i ≠ t) : bT l t l.length = none := by
  rcases bT_spec l t l.length with ⟨h1, -⟩ | ⟨m, -, ⟨i, -, h2, h3, -⟩, -⟩
  · exact h1
  · exact absurd h3 (h i (hd.1.mem_iff.2 h2))

theorem bT_some {l : List St} {d : List Nat} (hd : NrP l d) {t : Int} {k : Nat} (hk : k < d.length) (h1 : teamAt l (d[k]'hk) = t) (h2 : ∀ j (hj : j < k), teamAt l (d[j]'(by omega)) ≠ t) :
    bT l t l.length = some (sqAt l (d[k]'hk)) := by
  have hm : d[k]'hk ∈ hsA l := hd.1.mem_iff.1 (List.getElem_mem _)
  rcases bT_spec l t l.length with ⟨-, h3⟩ | ⟨m, h3, ⟨i, hi, h4, h5, h6⟩, h7⟩
  · exact absurd h1 (h3 _ (hsA_mem hm) hm)
  · rw [h3]
    have ha := h7 _ (hsA_mem hm) hm h1
    obtain ⟨j, hj, he⟩ := List.getElem_of_mem (hd.1.mem_iff.2 h4)
    have hkj : k ≤ j := by
      rcases Nat.lt_or_ge j k with h | h
      · exact absurd (by rw [he]; exact h5) (h2 j h)
      · exact h
    have hb := near_mono hd hj hkj
    rw [he, h6] at hb
    rw [show m = sqAt l (d[k]'hk) by omega]

theorem lead_of (P : Nat → Prop) [DecidablePred P] : ∀ d : List Nat, ∃ p, p ≤ d.length ∧ (∀ j (hj : j < d.length), j < p → P (d[j]'hj)) ∧ (p = d.length ∨ ∃ h : p < d.length, ¬ P (d[p]'h))
  | [] => ⟨0, by simp, fun j hj => by simp at hj, .inl rfl⟩
  | a :: d => by
    by_cases ha : P a
    · obtain ⟨p, h1, h2, h3⟩ := lead_of P d
      refine ⟨p + 1, by simpa using h1, fun j hj hjp => ?_, ?_⟩
      · cases j with
        | zero => exact ha
        | succ j => exact h2 j (by simpa using hj) (by omega)
      · rcases h3 with h3 | ⟨h, h3⟩
        · exact .inl (by simp [h3])
        · exact .inr ⟨by simpa using h, by simpa using h3⟩
    · exact ⟨0, by simp, fun j hj h => by omega, .inr ⟨by simp, by simpa using ha⟩⟩

theorem cnt_ref {l : List St} {d : List Nat} (hd : NrP l d) (ht : ∀ i ∈ d, teamAt l i = 0 ∨ teamAt l i = 1) : cntT l d = refT l := by
  cases hdd : d with
  | nil =>
    subst hdd
    have e0 := bT_none hd (t := 0) (by simp)
    have e1 := bT_none hd (t := 1) (by simp)
    unfold refT; rw [e0, e1]; rfl
  | cons a ds =>
    have hd0 : 0 < d.length := by rw [hdd]; simp
    have e0 : d[0]'hd0 = a := by subst hdd; rfl
    have hc : cntT l d = if fidx (fun i => teamAt l i != teamAt l a) d < 0 then (teamAt l a, ((d.length : Nat) : Int)) else
      if ptsN l d (fidx (fun i => teamAt l i != teamAt l a) d).toNat (sqAt l (d.getD (fidx (fun i => teamAt l i != teamAt l a) d).toNat 0)) = 0 then (-1, 0)
      else (teamAt l a, ((ptsN l d (fidx (fun i => teamAt l i != teamAt l a) d).toNat (sqAt l (d.getD (fidx (fun i => teamAt l i != teamAt l a) d).toNat 0)) : Nat) : Int)) := by subst hdd; rfl
    rw [← hdd]
    rw [hc]
    obtain ⟨T, hT⟩ : ∃ T, teamAt l a = T := ⟨_, rfl⟩
    rw [hT]
    have hT01 : T = 0 ∨ T = 1 := by rw [← hT]; exact ht a (by rw [hdd]; simp)
    have hbT : bT l T l.length = some (sqAt l a) := by
      have := bT_some hd hd0 (t := T) (by rw [e0, hT]) (fun j hj => by omega)
      rwa [e0] at this
    rcases fidx_two (fun i => teamAt l i != T) d with ⟨h1, h2⟩ | ⟨m, hm, h1, h2, h3⟩
    · rw [h1, if_pos (by omega)]
      have hall : ∀ i ∈ d, teamAt l i = T := fun i hi => by
        obtain ⟨j, hj, rfl⟩ := List.getElem_of_mem hi
        have := h2 j hj
        simpa using this
      have hcK : cK l T none l.length = d.length := by
        rw [cK_near hd, List.filter_eq_self.2]
        intro i hi
        simp [hall i hi]
      unfold refT
      rcases hT01 with rfl | rfl
      · rw [hbT, bT_none hd (t := 1) (fun i hi => by rw [hall i hi]; omega)]
        show _ = ((0 : Int), ((cK l 0 none l.length : Nat) : Int))
        rw [hcK]
      · rw [hbT, bT_none hd (t := 0) (fun i hi => by rw [hall i hi]; omega)]
        show _ = ((1 : Int), ((cK l 1 none l.length : Nat) : Int))
        rw [hcK]
    · rw [h1, if_neg (by omega), Int.toNat_natCast]
      have hgd : d.getD m 0 = d[m]'hm := by rw [List.getD_eq_getElem?_getD, List.getElem?_eq_getElem hm]; rfl
      rw [hgd]
      obtain ⟨far, hfar⟩ : ∃ far, sqAt l (d[m]'hm) = far := ⟨_, rfl⟩
      rw [hfar]
      have hbef : ∀ j (hj : j < m), teamAt l (d[j]'(by omega)) = T := fun j hj => by have := h3 j hj; simpa using this
      have hne : teamAt l (d[m]'hm) ≠ T := by simpa using h2
      have hU : teamAt l (d[m]'hm) = 1 - T := by
        have := ht _ (List.getElem_mem hm)
        rcases hT01 with rfl | rfl <;> rcases this with h | h <;> omega
      have hbU : bT l (1 - T) l.length = some far := by
        have := bT_some hd hm (t := 1 - T) hU (fun j hj => by rw [hbef j hj]; rcases hT01 with rfl | rfl <;> omega)
        rwa [hfar] at this
      -- the leading ones
      obtain ⟨p, hpl, hlt, hend⟩ := lead_of (fun i => sqAt l i < far) d
      have hpm : p ≤ m := by
        rcases Nat.lt_or_ge m p with h | h
        · have := hlt m hm h; omega
        · exact h
      have hge : ∀ j (hj : j < d.length), p ≤ j → far ≤ sqAt l (d[j]'hj) := fun j hj hjp => by
        have hpd : p < d.length := by omega
        have h6 : ¬ sqAt l (d[p]'hpd) < far := by
          rcases hend with h | ⟨h, h'⟩
          · omega
          · exact h'
        have := near_mono hd hj hjp
        omega
      have hpts : ptsN l d m far = p := by
        refine ptsN_at (by omega) hpm hlt ?_
        by_cases e : p = m
        · exact .inl e
        · exact .inr ⟨by omega, by have := hge p (by omega) (Nat.le_refl _); omega⟩
      have hcK : cK l T (some far) l.length = p := by
        rw [cK_near hd]
        have hsp : d = d.take p ++ d.drop p := (List.take_append_drop p d).symm
        conv => lhs; rw [hsp]
        rw [List.filter_append, List.length_append, List.filter_eq_self.2, List.filter_eq_nil_iff.2]
        · rw [List.length_take, List.length_nil]; omega
        · intro i hi
          obtain ⟨j, hj, rfl⟩ := List.getElem_of_mem hi
          rw [List.length_drop] at hj
          rw [List.getElem_drop]
          have := hge (p + j) (by omega) (by omega)
          simp
          intro _
          omega
        · intro i hi
          obtain ⟨j, hj, rfl⟩ := List.getElem_of_mem hi
          rw [List.length_take] at hj
          rw [List.getElem_take]
          simp [hbef j (by omega), hlt j (by omega) (by omega)]
      rw [hpts]
      have h0 : sqAt l a ≤ far := by
        have := near_mono hd hm (Nat.zero_le m)
        rw [e0, hfar] at this; exact this
      have hp0 : p = 0 ↔ sqAt l a = far := by
        constructor
        · intro h
          have := hge 0 hd0 (by omega)
          rw [e0] at this; omega
        · intro h
          rcases Nat.eq_zero_or_pos p with h' | h'
          · exact h'
          · have := hlt 0 hd0 h'
            rw [e0] at this; omega
      unfold refT
      rcases hT01 with rfl | rfl
      · have hb1 : bT l 1 l.length = some far := hbU
        rw [hbT, hb1]
        show _ = (if sqAt l a = far then _ else if far < sqAt l a then _ else _ : Int × Int)
        by_cases hp1 : p = 0
        · rw [if_pos hp1, if_pos (hp0.1 hp1)]
        · rw [if_neg hp1, if_neg (fun h => hp1 (hp0.2 h)), if_neg (by omega), hcK]
      · have : bT l 0 l.length = some far := hbU
        rw [hbT, this]
        show _ = (if far = sqAt l a then _ else if sqAt l a < far then _ else _ : Int × Int)
        by_cases hp1 : p = 0
        · rw [if_pos hp1, if_pos (hp0.1 hp1).symm]
        · rw [if_neg hp1, if_neg (fun h => hp1 (hp0.2 h.symm)), if_pos (by have := fun h => hp1 (hp0.2 h); omega), hcK]


end Go.Proofs.YtomcpgdpjpjioaaGreat
/- Layer 2: Count. -/
namespace Go.Proofs.YtomcpgdpjpjioaaGreat
open Go Go.RowKit Go.Proofs
attribute [local irreducible] J JQ JL JA JD

def PrN (f : FuncId) (caps : Array Value) (p : Nat → Bool) (l : List Nat) (w0 : World) : Prop := ∀ x ∈ l, ∀ W, Below w0.heap.size w0 W → Calls Tryz.prog f (#[] ++ #[.int .i64 (x : Nat)] ++ caps) W (Back (.bool (p x)) W)
theorem teamAt_get {l : List St} {i : Nat} {x : St} (h : i < l.length) (hx : l[i]'h = x) : teamAt l i = x.t := by
 unfold teamAt; rw [List.getD_eq_getElem?_getD, List.getElem?_eq_getElem h, hx]; rfl
set_option maxRecDepth 100000 in
set_option maxHeartbeats 4000000 in
theorem IndexFuncN (f : FuncId) (caps : Array Value) (p : Nat → Bool) (l : List Nat) (v : Value) (w : World) [hf : Cf Tryz.prog f] (hcl : PrN f caps p l w) (hrow : Arr 1 eN w v l) : Calls Tryz.prog 73 #[v, .func (.func f) #[] caps] w (Back (.int .i64 (fidx p l)) w) := by
 have hrow0 := hrow
 obtain ⟨A, cap, rfl, -, ⟨hl, -⟩, hA⟩ := hrow
 refine J_enter (fun _ => False) (vs := [.slice A l.length cap, .func (.func f) #[] caps]) (k := 17) (l := [(0, .slice A l.length cap), (1, .func (.func f) #[] caps)]) Tryz.func73 rfl rfl Tryz.ntmps73 rfl rfl (Wd.start _) ?_
 refine s14 ?_
 refine xL (T := Nat) (fun k => k ≤ l.length ∧ ∀ j (hj : j < l.length), j < k → p (l[j]'hj) = false) (fun k => [(0, .slice A l.length cap), (1, .func (.func f) #[] caps), (7, .int .i64 (l.length : Nat)), (8, .int .i64 (k : Nat))]) (fun k => []) (fun k => l.length - k) 0 ⟨Nat.zero_le _, fun j _ h => absurd h (Nat.not_lt_zero _)⟩ ?_
 rintro k ⟨hk, hall⟩
 refine s3 ?_
 refine JL_dec (fun h9 => ?_) (fun h9 => ?_)
 ·refine s15 ?_
  have hltx : k < l.length := by omega
  obtain ⟨bx, qx, rfl, hh⟩ := hA (by intro e; subst e; simp at hltx)
  obtain ⟨x, hx⟩ : ∃ y, l[k]'hltx = y := ⟨_, rfl⟩
  have hmx : x ∈ l := by rw [← hx]; exact List.getElem_mem _
  refine s5 ?_
  refine aV (vHold (v := .int .i64 (x : Nat)) rfl rfl (fun h => h) hh hltx (by omega) (by rw [hx]; rfl)) ?_
  refine aW (ow_callB (ec_val rfl rfl rfl Cf.h) rfl rfl (fun w hw => hcl x hmx w hw.bel)) (fun _ _ => ?_)
  refine JL_bool (fun h16 => ?_) (fun h16 => ?_)
  ·refine s4 ?_
   refine kJ [(5, _)] ?_
   refine s11 ?_
   refine JR_one rfl (rr_tmp rfl) ?_
   intro w' hw
   exact ⟨by rw [fidx_at hltx (by rw [hx]; exact h16) (fun j hj => hall j (by omega) hj)], hw.bel⟩
  ·refine s6 ?_
   refine kJ [(0, _), (1, _), (7, _), (8, _)] ?_
   refine s4 ?_
   have hn : ∀ j (hj : j < l.length), j < k + 1 → p (l[j]'hj) = false := fun j hj hjk => by
    rcases Nat.lt_or_ge j k with h | h
    ·exact hall j hj h
    ·obtain rfl : j = k := by omega
     rw [hx]; exact h16
   exact xR (k + 1) ⟨by omega, hn⟩ (by omega) (hl := ⟨rfl, rfl, rfl, (congrArg some (by go_num)), trivial⟩)
 ·refine s10 ?_
  refine kJ [] ?_
  refine s5 ?_
  refine JR_one rfl (rr_tmp rfl) ?_
  intro w' hw
  exact ⟨by rw [fidx_none (fun j hj => hall j hj (by omega))], hw.bel⟩
set_option maxRecDepth 100000 in
set_option maxHeartbeats 4000000 in
theorem cnt1_any (l : List St) (A : Option Addr) (cap b b2 : Nat) (T : Int) (i : Nat) (w : World) (hc : (cellB b [.slice A l.length cap] 35).holds w) (hc2 : (cellB b2 [.int .i64 T] 3).holds w) (hrow : Arr 4 eT w (.slice A l.length cap) l) (hi : i < l.length) : Calls Tryz.prog 74 (#[] ++ #[.int .i64 (i : Nat)] ++ #[.pointer (some ⟨b, 0, none⟩), .pointer (some ⟨b2, 0, none⟩)]) w (Back (.bool (decide (teamAt l i ≠ T))) w) := by
 obtain ⟨A', cap', e0, -, ⟨hl, -⟩, hAl⟩ := hrow
 obtain ⟨rfl, -, rfl⟩ : A = A' ∧ True ∧ cap = cap' := by injection e0 with e1 _ e3; exact ⟨e1, trivial, e3⟩
 obtain ⟨bx, qx, rfl, hh⟩ := hAl (by intro e; subst e; simp at hi)
 have hltx : i < l.length := hi
 obtain ⟨⟨xt, xn, xx, xy⟩, hx⟩ : ∃ y, l[i]'hltx = y := ⟨_, rfl⟩
 have hmx : (⟨xt, xn, xx, xy⟩ : St) ∈ l := by rw [← hx]; exact List.getElem_mem _
 refine J_enter (fun _ => False) (vs := [.int .i64 (i : Nat), .pointer (some ⟨b, 0, none⟩), .pointer (some ⟨b2, 0, none⟩)]) (k := 9) (l := [(0, .int .i64 (i : Nat)), (1, .pointer (some ⟨b, 0, none⟩)), (2, .pointer (some ⟨b2, 0, none⟩))]) Tryz.func74 rfl rfl Tryz.ntmps74 rfl rfl (Wd.start _) ?_
 refine s6 ?_
 refine xD [0, 1, 2, 3, 4, 5, 6, 7] [0, 4, 5] ?_
 refine dL rfl (vOld rfl rfl (fun h => h) (cellB_get hc rfl)) ?_
 refine s1 ?_
 refine dP rfl (pIdxI (i) rfl rfl rfl) ?_
 refine s1 ?_
 refine dL rfl (vHold (v := .int .i64 xt) rfl rfl (fun h => h) hh hltx (by omega) (by rw [hx]; rfl)) ?_
 refine dL rfl (vOld rfl rfl (fun h => h) (cellB_get hc2 rfl)) ?_
 refine s5 ?_
 refine JR_one rfl (rr_tmp rfl) ?_
 intro w' hw
 exact ⟨by rw [teamAt_get hltx hx], hw.bel⟩
/-- Who counts, how many; the error. -/
def cntF (l : List St) : Int × Int × Int := if chkB l = true then ((refT l).1, (refT l).2, 0) else (0, 0, 2)
theorem cnt_at {l : List St} {L : List Nat} {p q : Int} (hc : chkB l = true) (hL : NrP l L) (h : cntT l L = (p, q)) : Value.tuple #[.int .i64 p, .int .i64 q, .int .i64 0] = .tuple #[.int .i64 (cntF l).1, .int .i64 (cntF l).2.1, .int .i64 (cntF l).2.2] := by
 have h1 := cnt_ref hL (fun i hi => by
  have hi2 := hsA_mem (hL.1.mem_iff.1 hi)
  have h2 := (chk_facts hc).2 i hi2
  rw [teamAt_get hi2 rfl]
  unfold okSt at h2
  omega)
 unfold cntF
 rw [if_pos hc, ← h1, h]
theorem bne_dec (l : List St) (T : Int) : (fun i => teamAt l i != T) = fun i => decide (teamAt l i ≠ T) := by
 funext i
 by_cases h : teamAt l i = T
 ·simp [h]
 ·simp [h]
set_option maxRecDepth 100000 in
set_option maxHeartbeats 4000000 in
theorem Count_any (l : List St) (v : Value) (w : World) (hrow : Arr 4 eT w v l) : Calls Tryz.prog 46 #[v] w (Back (.tuple #[.int .i64 (cntF l).1, .int .i64 (cntF l).2.1, .int .i64 (cntF l).2.2]) w) := by
 have hrow0 := hrow
 obtain ⟨A, cap, rfl, -, ⟨hl, -⟩, hA⟩ := hrow
 refine J_enter (fun _ => False) (vs := [.slice A l.length cap]) (k := 61) (l := [(0, .slice A l.length cap)]) Tryz.func46 rfl rfl Tryz.ntmps46 rfl rfl (Wd.start _) ?_
 refine s2 ?_
 refine aW (oX [_]) (fun b1 hb1 => ?_)
 refine aW oA (fun b2 hb2 => ?_)
 refine s8 ?_
 refine aCB (fun w hw => Check_any l _ w (hrow0.up ET hw.bel)) ?_
 refine JL_bool (fun h9 => ?_) (fun h9 => ?_)
 ·refine s7 ?_
  have hl16 := (chk_facts h9).1
  have okm : ∀ s ∈ l, okSt s := fun s hs => by
   obtain ⟨j, hj, rfl⟩ := List.getElem_of_mem hs
   exact (chk_facts h9).2 j hj
  refine kJ [(1, _), (2, _), (3, _)] ?_
  refine s2 ?_
  refine aW (oR (fun w hw => nearest_any l _ w (hrow0.up ET hw.bel) (fun s hs => (okm s hs).2.1) (fun s hs => (okm s hs).2.2) (by omega))) (fun t12 ht12 => ?_)
  obtain ⟨L, lA, lc⟩ := t12
  dsimp only at ht12 ⊢
  have hL := ht12
  refine s9 ?_
  refine JL_dec (fun h15 => ?_) (fun h15 => ?_)
  ·refine s4 ?_
   refine kJ [(2, _)] ?_
   refine s8 ?_
   refine JR_three rfl (rr_cell rfl Agg.h (by repeat constructor) (by rfl)) (rr_tmp rfl) (rr_tmp rfl) ?_
   intro w' hw
   obtain rfl : L = [] := List.length_eq_zero_iff.1 (by omega)
   exact ⟨congrArg Ending.returned (cnt_at h9 hL (p := -1) (q := 0) rfl), hw.bel⟩
  ·refine s6 ?_
   obtain ⟨a, ds, rfl⟩ : ∃ a ds, L = a :: ds := by
    cases L with
    | nil => exact absurd rfl h15
    | cons a ds => exact ⟨a, ds, rfl⟩
   refine J_fact (fun hw => ?_)
   obtain ⟨g, rfl⟩ := own_some hw (ty := 3) (k := 1) (m := (a :: ds).length) (c := lc) (A := lA) (xs := (a :: ds).flatMap eN) (by repeat constructor) (by simp)
   clear hw
   have hLl : ∀ i ∈ a :: ds, i < l.length := fun i hi => hsA_mem (hL.1.mem_iff.1 hi)
   have hal : a < l.length := hLl a (by simp)
   obtain ⟨bx, qx, rfl, hh⟩ := hA (by intro e; subst e; simp at hal)
   obtain ⟨⟨xt, xn, xx, xy⟩, hx⟩ : ∃ y, l[a]'hal = y := ⟨_, rfl⟩
   have hta : teamAt l a = xt := teamAt_get hal hx
   have hL0 : 0 < (a :: ds).length := by simp
   have hL16 : (a :: ds).length ≤ 16 := by rw [hL.1.length_eq]; have := hsN_len l l.length; unfold hsA; omega
   refine kJ [(1, _), (2, _), (3, _), (5, _)] ?_
   refine xDx [0, 1, 2, 3, 4, 5, 6, 7] [] [0, 3, 6] [cellB b1 [.slice (some ⟨bx, qx, none⟩) l.length cap] 35, ownB 3 1 (some ⟨g, 0, none⟩) (a :: ds).length lc ((a :: ds).flatMap eN)] ?_
   refine s2 ?_
   refine dP rfl (pIdxI (0) rfl rfl rfl rfl) ?_
   refine dX rfl (vOwn (v := .int .i64 (a : Nat)) EN (L := a :: ds) (j := 0) rfl rfl (by repeat constructor) (by simp) (by omega) rfl) ?_
   refine dP rfl (pIdxI (a) rfl rfl rfl) ?_
   refine s1 ?_
   refine dX rfl (vHold (v := .int .i64 xt) rfl rfl (fun h => h) hh hal (by omega) (by rw [hx]; rfl)) ?_
   refine s4 ?_
   refine kJ [(1, _), (2, _), (3, _), (5, _)] ?_
   refine s3 ?_
   refine aCB (fun w hw => IndexFuncN 74 #[.pointer (some ⟨b1, 0, none⟩), .pointer (some ⟨b2, 0, none⟩)] (fun i => decide (teamAt l i ≠ xt)) (a :: ds) _ w (fun i hi W hW => cnt1_any l (some ⟨bx, qx, none⟩) cap b1 b2 xt i W ((hw.up hW).ok (cellB b1 [.slice (some ⟨bx, qx, none⟩) l.length cap] 35) (by repeat constructor)).1 ((hw.up hW).ok (cellB b2 [.int .i64 (xt)] 3) (by repeat constructor)).1 (hrow0.up ET (hw.up hW).bel) (hLl i hi)) (own_arr (A := some ⟨g, 0, none⟩) (c := lc) EN hw (by repeat constructor) (by omega))) ?_
   refine s8 ?_
   refine JL_dec (fun h27 => ?_) (fun h27 => ?_)
   ·refine s4 ?_
    refine kJ [(2, _), (5, _)] ?_
    refine s11 ?_
    refine JR_three rfl (rr_cell rfl Agg.h (by repeat constructor) (by rfl)) (rr_tmp rfl) (rr_tmp rfl) ?_
    intro w' hw
    exact ⟨congrArg Ending.returned (cnt_at h9 hL (p := xt) (q := (((a :: ds).length : Nat) : Int)) (by unfold cntT; dsimp only; rw [hta, bne_dec, if_pos h27])), hw.bel⟩
   ·refine s6 ?_
    rcases fidx_two (fun i => decide (teamAt l i ≠ xt)) (a :: ds) with ⟨hfm, -⟩ | ⟨m, hm, hfm, -, -⟩
    ·exact absurd (by rw [hfm]; decide) h27
    rw [hfm]
    obtain ⟨far, hfar⟩ : ∃ far, sqAt l ((a :: ds)[m]'hm) = far := ⟨_, rfl⟩
    obtain ⟨u, hu⟩ : ∃ u, (a :: ds)[m]'hm = u := ⟨_, rfl⟩
    have hul : u < l.length := hLl u (by rw [← hu]; exact List.getElem_mem _)
    obtain ⟨⟨yt, yn, yx, yy⟩, hy⟩ : ∃ y, l[u]'hul = y := ⟨_, rfl⟩
    have hmy : (⟨yt, yn, yx, yy⟩ : St) ∈ l := by rw [← hy]; exact List.getElem_mem _
    have hfy : sqd yx yy = far := by rw [← hfar, hu, sqAt_get hul hy]
    refine kJ [(1, _), (2, _), (3, _), (5, _), (6, _)] ?_
    refine xD [0, 1, 2, 3, 4, 5, 6, 7, 8, 9] [0, 4, 7] ?_
    refine s3 ?_
    refine dP rfl (pIdxI (m) rfl rfl rfl) ?_
    refine dL rfl (vOwn (v := .int .i64 (u : Nat)) EN (L := a :: ds) (j := m) rfl rfl (by repeat constructor) hm (by omega) (by rw [hu]; rfl)) ?_
    refine dP rfl (pIdxI (u) rfl rfl rfl) ?_
    refine s1 ?_
    refine dL rfl (vHoldP (i := 2) (m := 2) (cs := [.int .i64 yx, .int .i64 yy]) rfl rfl (fun h => h) hh hul rfl (by omega) (by rw [hy]; rfl)) ?_
    refine dCB rfl (fun w hw => square_any yx yy (play_bound (okm _ hmy).2.2) w) ?_
    refine s5 ?_
    refine xL (T := Nat) (fun k => k ≤ m ∧ ∀ j (hj : j < (a :: ds).length), j < k → sqAt l ((a :: ds)[j]'hj) < far) (fun k => [(1, .pointer (some ⟨b1, 0, none⟩)), (2, .pointer (some ⟨b2, 0, none⟩)), (3, .int .i64 (k : Nat)), (5, .slice (some ⟨g, 0, none⟩) (a :: ds).length lc), (6, .int .i64 (m : Nat)), (7, .int .i64 far)]) (fun k => [cellB b1 [.slice (some ⟨bx, qx, none⟩) l.length cap] 35, cellB b2 [.int .i64 (xt)] 3, ownB 3 1 (some ⟨g, 0, none⟩) (a :: ds).length lc ((a :: ds).flatMap eN)]) (fun k => m - k) 0 ⟨Nat.zero_le _, fun j _ h => absurd h (Nat.not_lt_zero _)⟩ ?_ (hl := ⟨rfl, rfl, rfl, rfl, rfl, (by rw [hfy]; rfl), trivial⟩)
    rintro k ⟨hkm, hall⟩
    refine s2 ?_
    by_cases hkm2 : k < m
    ·have hkd : k < (a :: ds).length := by omega
     obtain ⟨v, hv⟩ : ∃ v, (a :: ds)[k]'hkd = v := ⟨_, rfl⟩
     have hvl : v < l.length := hLl v (by rw [← hv]; exact List.getElem_mem _)
     obtain ⟨⟨zt, zn, zx, zy⟩, hz⟩ : ∃ y, l[v]'hvl = y := ⟨_, rfl⟩
     have hmz : (⟨zt, zn, zx, zy⟩ : St) ∈ l := by rw [← hz]; exact List.getElem_mem _
     refine xD [0, 1, 2, 3, 4, 5, 6, 7, 8, 9, 10, 11, 13, 12, 14] [4, 8, 11] ?_
     refine s3 ?_
     refine dDecT ?_ (by omega)
     refine s4 ?_
     refine dP rfl (pIdxI (k) rfl rfl rfl) ?_
     refine dL rfl (vOwn (v := .int .i64 (v : Nat)) EN (L := a :: ds) (j := k) rfl rfl (by repeat constructor) hkd (by omega) (by rw [hv]; rfl)) ?_
     refine dP rfl (pIdxI (v) rfl rfl rfl) ?_
     refine s1 ?_
     refine dL rfl (vHoldP (i := 2) (m := 2) (cs := [.int .i64 zx, .int .i64 zy]) rfl rfl (fun h => h) hh hvl rfl (by omega) (by rw [hz]; rfl)) ?_
     refine s1 ?_
     refine dCB rfl (fun w hw => square_any zx zy (play_bound (okm _ hmz).2.2) w) ?_
     refine s1 ?_
     refine dDec (fun h54 => ?_) (fun h54 => ?_)
     ·refine dO [15] ?_
      refine s7 ?_
      refine kJ [(1, _), (2, _), (3, _), (5, _), (6, _), (7, _)] ?_
      refine s6 ?_
      have hn : ∀ j (hj : j < (a :: ds).length), j < k + 1 → sqAt l ((a :: ds)[j]'hj) < far := fun j hj hjk => by
       rcases Nat.lt_or_ge j k with h | h
       ·exact hall j hj h
       ·obtain rfl : j = k := by omega
        rw [hv, sqAt_get hvl hz]; exact h54
      exact xR (k + 1) ⟨by omega, hn⟩ (by omega) (hl := ⟨rfl, rfl, (congrArg some (by go_num)), rfl, rfl, rfl, trivial⟩)
     ·refine dO [15] ?_
      refine s11 ?_
      refine kJ [(2, _), (3, _)] ?_
      refine s3 ?_
      refine JL_dec (fun h59 => ?_) (fun h59 => ?_)
      ·refine s12 ?_
       refine JR_three rfl (rr_cell rfl Agg.h (by repeat constructor) (by rfl)) (rr_tmp rfl) (rr_tmp rfl) ?_
       intro w' hw
       have hpt : ptsN l (a :: ds) m far = k := ptsN_at (by omega) hkm hall (.inr ⟨by omega, by rw [hv, sqAt_get hvl hz]; exact h54⟩)
       have hgd : (a :: ds).getD m 0 = u := by rw [List.getD_eq_getElem?_getD, List.getElem?_eq_getElem hm, hu]; rfl
       have hsu : sqAt l u = far := by rw [← hfar, hu]
       exact ⟨congrArg Ending.returned (cnt_at h9 hL (p := -1) (q := 0) (by unfold cntT; dsimp only; rw [hta, bne_dec, hfm, if_neg (by omega), Int.toNat_natCast, hgd, hsu, hpt, if_pos (by omega)])), hw.bel⟩
      ·refine s15 ?_
       refine JR_three rfl (rr_cell rfl Agg.h (by repeat constructor) (by rfl)) (rr_tmp rfl) (rr_tmp rfl) ?_
       intro w' hw
       have hpt : ptsN l (a :: ds) m far = k := ptsN_at (by omega) hkm hall (.inr ⟨by omega, by rw [hv, sqAt_get hvl hz]; exact h54⟩)
       have hgd : (a :: ds).getD m 0 = u := by rw [List.getD_eq_getElem?_getD, List.getElem?_eq_getElem hm, hu]; rfl
       have hsu : sqAt l u = far := by rw [← hfar, hu]
       exact ⟨congrArg Ending.returned (cnt_at h9 hL (p := xt) (q := ((k : Nat) : Int)) (by unfold cntT; dsimp only; rw [hta, bne_dec, hfm, if_neg (by omega), Int.toNat_natCast, hgd, hsu, hpt, if_neg (by omega)])), hw.bel⟩
    ·refine xD [0, 1, 2, 3, 4, 5, 6, 7, 8, 9, 10, 11, 12, 13, 14, 15] [4, 8, 11] ?_
     refine s3 ?_
     refine dDecF ?_ (by omega)
     refine s23 ?_
     refine kJ [(2, _), (3, _)] ?_
     refine s3 ?_
     refine JL_dec (fun h59 => ?_) (fun h59 => ?_)
     ·refine s12 ?_
      refine JR_three rfl (rr_cell rfl Agg.h (by repeat constructor) (by rfl)) (rr_tmp rfl) (rr_tmp rfl) ?_
      intro w' hw
      have hpt : ptsN l (a :: ds) m far = k := ptsN_at (by omega) hkm hall (.inl (by omega))
      have hgd : (a :: ds).getD m 0 = u := by rw [List.getD_eq_getElem?_getD, List.getElem?_eq_getElem hm, hu]; rfl
      have hsu : sqAt l u = far := by rw [← hfar, hu]
      exact ⟨congrArg Ending.returned (cnt_at h9 hL (p := -1) (q := 0) (by unfold cntT; dsimp only; rw [hta, bne_dec, hfm, if_neg (by omega), Int.toNat_natCast, hgd, hsu, hpt, if_pos (by omega)])), hw.bel⟩
     ·refine s15 ?_
      refine JR_three rfl (rr_cell rfl Agg.h (by repeat constructor) (by rfl)) (rr_tmp rfl) (rr_tmp rfl) ?_
      intro w' hw
      have hpt : ptsN l (a :: ds) m far = k := ptsN_at (by omega) hkm hall (.inl (by omega))
      have hgd : (a :: ds).getD m 0 = u := by rw [List.getD_eq_getElem?_getD, List.getElem?_eq_getElem hm, hu]; rfl
      have hsu : sqAt l u = far := by rw [← hfar, hu]
      exact ⟨congrArg Ending.returned (cnt_at h9 hL (p := xt) (q := ((k : Nat) : Int)) (by unfold cntT; dsimp only; rw [hta, bne_dec, hfm, if_neg (by omega), Int.toNat_natCast, hgd, hsu, hpt, if_neg (by omega)])), hw.bel⟩
 ·refine s5 ?_
  refine kJ [(2, _)] ?_
  refine s8 ?_
  refine JR_three rfl (rr_cell rfl Agg.h (by repeat constructor) (by rfl)) (rr_tmp rfl) (rr_tmp rfl) ?_
  intro w' hw
  exact ⟨by unfold cntF; rw [h9]; rfl, hw.bel⟩
end Go.Proofs.YtomcpgdpjpjioaaGreat
/- Layers 2, 7: Score; Count (document). -/
namespace Go.Proofs.YtomcpgdpjpjioaaGreat
open Go Go.RowKit Go.Proofs
attribute [local irreducible] J JQ JL JA JD

/-- Who counts in an end. -/
def scoF (E : En) : Int × Int × Int := if E.tn = 2 * E.c.e then cntF E.l else (0, 0, 9)
theorem hsA_iff {l : List St} {k : Nat} {x : St} (hk : k < l.length) (hx : l[k]'hk = x) : k ∈ hsA l ↔ InH x.x x.y := by
 unfold hsA hsN
 rw [List.mem_filter, List.mem_range]
 have e : l.getD k ⟨0, 0, 0, 0⟩ = x := by rw [List.getD_eq_getElem?_getD, List.getElem?_eq_getElem hk, hx]; rfl
 rw [e, decide_eq_true_eq]
 exact ⟨fun h => h.2, fun h => ⟨hk, h⟩⟩
theorem bT_y {l : List St} {t : Int} {k : Nat} {x : St} (hk : k < l.length) (hx : l[k]'hk = x) (h1 : x.t = t) (h2 : InH x.x x.y) (h3 : bT l t k = none ∨ sqd x.x x.y < (bT l t k).getD 0) : bT l t (k + 1) = some (sqd x.x x.y) := by
 have e := sqAt_get hk hx
 show (if _ then _ else _) = _
 rw [if_pos ⟨⟨by rw [teamAt_get hk hx]; exact h1, (hsA_iff hk hx).2 h2⟩, by rw [e]; exact h3⟩, e]
theorem bT_n {l : List St} {t : Int} {k : Nat} {x : St} (hk : k < l.length) (hx : l[k]'hk = x) (h : ¬ ((x.t = t ∧ InH x.x x.y) ∧ (bT l t k = none ∨ sqd x.x x.y < (bT l t k).getD 0))) : bT l t (k + 1) = bT l t k := by
 have e := sqAt_get hk hx
 show (if _ then _ else _) = _
 rw [if_neg (fun h' => h ⟨⟨by rw [← teamAt_get hk hx]; exact h'.1.1, (hsA_iff hk hx).1 h'.1.2⟩, by rw [← e]; exact h'.2⟩)]
theorem cK_y {l : List St} {t : Int} {lim : Option Int} {k : Nat} {x : St} (hk : k < l.length) (hx : l[k]'hk = x) (h1 : x.t = t) (h2 : InH x.x x.y) (h3 : lim = none ∨ sqd x.x x.y < lim.getD 0) : cK l t lim (k + 1) = cK l t lim k + 1 := by
 show cK l t lim k + (if _ then 1 else 0) = _
 rw [if_pos ⟨⟨by rw [teamAt_get hk hx]; exact h1, (hsA_iff hk hx).2 h2⟩, by rw [sqAt_get hk hx]; exact h3⟩]
theorem cK_n {l : List St} {t : Int} {lim : Option Int} {k : Nat} {x : St} (hk : k < l.length) (hx : l[k]'hk = x) (h : ¬ ((x.t = t ∧ InH x.x x.y) ∧ (lim = none ∨ sqd x.x x.y < lim.getD 0))) : cK l t lim (k + 1) = cK l t lim k := by
 show cK l t lim k + (if _ then 1 else 0) = _
 rw [if_neg (fun h' => h ⟨⟨by rw [← teamAt_get hk hx]; exact h'.1.1, (hsA_iff hk hx).1 h'.1.2⟩, by rw [← sqAt_get hk hx]; exact h'.2⟩)]; rfl
set_option maxRecDepth 100000 in
set_option maxHeartbeats 4000000 in
theorem Score_any (b : Nat) (e : EnM) (w : World) (h : EndW w b e) (hok : EnOk e.pl) : Calls Tryz.prog 15 #[.pointer (some ⟨b, 0, none⟩)] w (Back (.tuple #[.int .i64 (scoF e.pl).1, .int .i64 (scoF e.pl).2.1, .int .i64 (scoF e.pl).2.2]) w) := by
 obtain ⟨⟨kf, kt, ks, ke, kp⟩, fr, l, sA, sk, tn, pd⟩ := e
 have hc : (cellB b [.int .i64 kf, .int .i64 kt, .int .i64 ks, .int .i64 ke, .bool kp, .bool true, .int .i64 fr, .slice sA l.length sk, .int .i64 tn, .pointer (pdA pd)] 68).holds w := h.cell
 have he := hok.e
 dsimp only [EnM.pl] at he
 refine J_enter (fun _ => False) (vs := [.pointer (some ⟨b, 0, none⟩)]) (k := 20) (l := [(0, .pointer (some ⟨b, 0, none⟩))]) Tryz.func15 rfl rfl Tryz.ntmps15 rfl rfl (Wd.start _) ?_
 refine s12 ?_
 refine aCB (fun w hw => is_any b kf kt ks ke kp true fr sA l.length sk tn _ w (It.up_cell hc hw.bel)) ?_
 refine aBoolT ?_ rfl
 refine s6 ?_
 refine kJ [(0, _)] ?_
 refine s2 ?_
 refine aCB (fun w hw => over_any b kf kt ks ke kp true fr sA l.length sk tn _ w (It.up_cell hc hw.bel) (by omega)) ?_
 refine JL_dec (fun h11 => ?_) (fun h11 => ?_)
 ·refine s9 ?_
  refine kJ [(0, _)] ?_
  refine s4 ?_
  refine aV (vOld rfl rfl (fun h => h) (cellB_get hc rfl)) ?_
  refine aCB (fun w hw => Count_any l _ w (h.row.up ET hw.bel)) ?_
  refine s9 ?_
  refine JR_three rfl (rr_tmp rfl) (rr_tmp rfl) (rr_tmp rfl) ?_
  intro w' hw
  exact ⟨by unfold scoF EnM.pl; dsimp only; rw [if_pos h11], hw.bel⟩
 ·refine s6 ?_
  refine kJ [] ?_
  refine s9 ?_
  refine JR_three rfl (rr_tmp rfl) (rr_tmp rfl) (rr_tmp rfl) ?_
  intro w' hw
  exact ⟨by unfold scoF EnM.pl; dsimp only; rw [if_neg h11], hw.bel⟩
set_option maxRecDepth 100000 in
set_option maxHeartbeats 4000000 in
theorem refbest (tm : Int) (l : List St) (v : Value) (w : World) (hrow : Arr 4 eT w v l) (okm : ∀ s ∈ l, okSt s) : Calls Tryz.prog 103 #[v, .int .i64 tm] w (Back (.tuple #[.int .i64 ((bT l tm l.length).getD 0), .bool (bT l tm l.length).isSome]) w) := by
 have hrow0 := hrow
 obtain ⟨A, cap, rfl, -, ⟨hl, -⟩, hA⟩ := hrow
 refine J_enter (fun _ => False) (vs := [.slice A l.length cap, .int .i64 tm]) (k := 50) (l := [(0, .slice A l.length cap), (1, .int .i64 tm)]) Tryz.func103 rfl rfl Tryz.ntmps103 rfl rfl (Wd.start _) ?_
 refine s19 ?_
 refine xL (T := Nat) (fun k => k ≤ l.length) (fun k => [(0, .slice A l.length cap), (1, .int .i64 tm), (6, .int .i64 ((bT l tm k).getD 0)), (7, .bool (bT l tm k).isSome), (8, .int .i64 (k : Nat))]) (fun k => []) (fun k => l.length - k) 0 (Nat.zero_le _) ?_
 rintro k hk
 refine s7 ?_
 refine JL_dec (fun h12 => ?_) (fun h12 => ?_)
 ·refine s8 ?_
  rcases hb : bT l tm k with _ | mb
  ·have hltx : k < l.length := by omega
   obtain ⟨bx, qx, rfl, hh⟩ := hA (by intro e; subst e; simp at hltx)
   obtain ⟨⟨xt, xn, xx, xy⟩, hx⟩ : ∃ y, l[k]'hltx = y := ⟨_, rfl⟩
   have hmx : (⟨xt, xn, xx, xy⟩ : St) ∈ l := by rw [← hx]; exact List.getElem_mem _
   refine kJ [(0, _), (1, _), (6, _), (7, _), (8, _)] ?_
   refine s5 ?_
   refine aV (vHold (v := .int .i64 xt) rfl rfl (fun h => h) hh hltx (by omega) (by rw [hx]; rfl)) ?_
   refine s2 ?_
   refine JL_dec (fun h21 => ?_) (fun h21 => ?_)
   ·refine s5 ?_
    refine aV (vHoldP (i := 2) (m := 2) (cs := [.int .i64 xx, .int .i64 xy]) rfl rfl (fun h => h) hh hltx rfl (by omega) (by rw [hx]; rfl)) ?_
    refine aCB (fun w hw => refInHouse xx xy (okm _ hmx).2.1 w) ?_
    refine JL_dec (fun h28 => ?_) (fun h28 => ?_)
    ·refine s19 ?_
     refine kJ [(0, _), (1, _), (8, _)] ?_
     refine s5 ?_
     refine aV (vHoldP (i := 2) (m := 2) (cs := [.int .i64 xx, .int .i64 xy]) rfl rfl (fun h => h) hh hltx rfl (by omega) (by rw [hx]; rfl)) ?_
     refine aCB (fun w hw => refSquare xx xy (play_bound (okm _ hmx).2.2) w) ?_
     refine s3 ?_
     refine kJ [(0, _), (1, _), (6, _), (8, _)] ?_
     refine s10 ?_
     have hs := bT_y hltx hx h21 h28 (.inl hb)
     dsimp only at hs
     exact xR (k + 1) (by omega) (by omega) (hl := ⟨rfl, rfl, (by rw [hs]; rfl), (by rw [hs]; rfl), (congrArg some (by go_num)), trivial⟩)
    ·refine s21 ?_
     refine kJ [(0, _), (1, _), (6, _), (7, _), (8, _)] ?_
     refine s5 ?_
     have hs := bT_n (t := tm) hltx hx (fun h => h28 h.1.2)
     rw [hb] at hs
     exact xR (k + 1) (by omega) (by omega) (hl := ⟨rfl, rfl, (by rw [hs]; rfl), (by rw [hs]; rfl), (congrArg some (by go_num)), trivial⟩)
   ·refine s28 ?_
    refine kJ [(0, _), (1, _), (6, _), (7, _), (8, _)] ?_
    refine s5 ?_
    have hs := bT_n (t := tm) hltx hx (fun h => h21 h.1.1)
    rw [hb] at hs
    exact xR (k + 1) (by omega) (by omega) (hl := ⟨rfl, rfl, (by rw [hs]; rfl), (by rw [hs]; rfl), (congrArg some (by go_num)), trivial⟩)
  ·have hltx : k < l.length := by omega
   obtain ⟨bx, qx, rfl, hh⟩ := hA (by intro e; subst e; simp at hltx)
   obtain ⟨⟨xt, xn, xx, xy⟩, hx⟩ : ∃ y, l[k]'hltx = y := ⟨_, rfl⟩
   have hmx : (⟨xt, xn, xx, xy⟩ : St) ∈ l := by rw [← hx]; exact List.getElem_mem _
   refine kJ [(0, _), (1, _), (6, _), (7, _), (8, _)] ?_
   refine s5 ?_
   refine aV (vHold (v := .int .i64 xt) rfl rfl (fun h => h) hh hltx (by omega) (by rw [hx]; rfl)) ?_
   refine s2 ?_
   refine JL_dec (fun h21 => ?_) (fun h21 => ?_)
   ·refine s5 ?_
    refine aV (vHoldP (i := 2) (m := 2) (cs := [.int .i64 xx, .int .i64 xy]) rfl rfl (fun h => h) hh hltx rfl (by omega) (by rw [hx]; rfl)) ?_
    refine aCB (fun w hw => refInHouse xx xy (okm _ hmx).2.1 w) ?_
    refine JL_dec (fun h28 => ?_) (fun h28 => ?_)
    ·refine s9 ?_
     refine aV (vHoldP (i := 2) (m := 2) (cs := [.int .i64 xx, .int .i64 xy]) rfl rfl (fun h => h) hh hltx rfl (by omega) (by rw [hx]; rfl)) ?_
     refine aCB (fun w hw => refSquare xx xy (play_bound (okm _ hmx).2.2) w) ?_
     refine s2 ?_
     refine JL_dec (fun h41 => ?_) (fun h41 => ?_)
     ·refine s6 ?_
      refine kJ [(0, _), (1, _), (8, _)] ?_
      refine s5 ?_
      refine aV (vHoldP (i := 2) (m := 2) (cs := [.int .i64 xx, .int .i64 xy]) rfl rfl (fun h => h) hh hltx rfl (by omega) (by rw [hx]; rfl)) ?_
      refine aCB (fun w hw => refSquare xx xy (play_bound (okm _ hmx).2.2) w) ?_
      refine s3 ?_
      refine kJ [(0, _), (1, _), (6, _), (8, _)] ?_
      refine s10 ?_
      have hs := bT_y hltx hx h21 h28 (.inr (by rw [hb]; exact h41))
      dsimp only at hs
      exact xR (k + 1) (by omega) (by omega) (hl := ⟨rfl, rfl, (by rw [hs]; rfl), (by rw [hs]; rfl), (congrArg some (by go_num)), trivial⟩)
     ·refine s8 ?_
      refine kJ [(0, _), (1, _), (6, _), (7, _), (8, _)] ?_
      refine s5 ?_
      have hs := bT_n (t := tm) hltx hx (fun h => h.2.elim (fun h => by rw [hb] at h; cases h) (fun h => h41 (by rw [hb] at h; exact h)))
      rw [hb] at hs
      exact xR (k + 1) (by omega) (by omega) (hl := ⟨rfl, rfl, (by rw [hs]; rfl), (by rw [hs]; rfl), (congrArg some (by go_num)), trivial⟩)
    ·refine s21 ?_
     refine kJ [(0, _), (1, _), (6, _), (7, _), (8, _)] ?_
     refine s5 ?_
     have hs := bT_n (t := tm) hltx hx (fun h => h28 h.1.2)
     rw [hb] at hs
     exact xR (k + 1) (by omega) (by omega) (hl := ⟨rfl, rfl, (by rw [hs]; rfl), (by rw [hs]; rfl), (congrArg some (by go_num)), trivial⟩)
   ·refine s28 ?_
    refine kJ [(0, _), (1, _), (6, _), (7, _), (8, _)] ?_
    refine s5 ?_
    have hs := bT_n (t := tm) hltx hx (fun h => h21 h.1.1)
    rw [hb] at hs
    exact xR (k + 1) (by omega) (by omega) (hl := ⟨rfl, rfl, (by rw [hs]; rfl), (by rw [hs]; rfl), (congrArg some (by go_num)), trivial⟩)
 ·refine s9 ?_
  refine kJ [(6, _), (7, _)] ?_
  refine s8 ?_
  refine JR_two rfl (rr_tmp rfl) (rr_tmp rfl) ?_
  intro w' hw
  obtain rfl : k = l.length := by omega
  exact ⟨rfl, hw.bel⟩
set_option maxRecDepth 100000 in
set_option maxHeartbeats 4000000 in
theorem refCount (l : List St) (v : Value) (w : World) (hrow : Arr 4 eT w v l) : Calls Tryz.prog 77 #[v] w (Back (.tuple #[.int .i64 (cntF l).1, .int .i64 (cntF l).2.1, .int .i64 (cntF l).2.2]) w) := by
 have hrow0 := hrow
 obtain ⟨A, cap, rfl, -, ⟨hl, -⟩, hA⟩ := hrow
 refine J_enter (fun _ => False) (vs := [.slice A l.length cap]) (k := 96) (l := [(0, .slice A l.length cap)]) Tryz.func77 rfl rfl Tryz.ntmps77 rfl rfl (Wd.start _) ?_
 refine s11 ?_
 refine aCB (fun w hw => refCheck l _ w (hrow0.up ET hw.bel)) ?_
 refine JL_bool (fun h15 => ?_) (fun h15 => ?_)
 ·refine s7 ?_
  have hl16 := (chk_facts h15).1
  have okm : ∀ s ∈ l, okSt s := fun s hs => by
   obtain ⟨j, hj, rfl⟩ := List.getElem_of_mem hs
   exact (chk_facts h15).2 j hj
  refine kJ [(0, _)] ?_
  refine s2 ?_
  refine aCB (fun w hw => refbest 0 l _ w (hrow0.up ET hw.bel) okm) ?_
  refine s8 ?_
  refine kJ [(0, _), (5, _), (6, _)] ?_
  refine s2 ?_
  refine aCB (fun w hw => refbest 1 l _ w (hrow0.up ET hw.bel) okm) ?_
  refine s9 ?_
  obtain hb0 | ⟨m0, hb0⟩ : bT l 0 l.length = none ∨ ∃ m, bT l 0 l.length = some m := by cases bT l 0 l.length with | none => exact .inl rfl | some m => exact .inr ⟨m, rfl⟩
  all_goals obtain hb1 | ⟨m1, hb1⟩ : bT l 1 l.length = none ∨ ∃ m, bT l 1 l.length = some m := by cases bT l 1 l.length with | none => exact .inl rfl | some m => exact .inr ⟨m, rfl⟩
  all_goals rw [hb0, hb1]
  ·refine kJ [(0, _), (5, _), (6, _), (7, _), (8, _)] ?_
   refine s22 ?_
   refine kJ [] ?_
   refine s8 ?_
   refine JR_three rfl (rr_tmp rfl) (rr_tmp rfl) (rr_tmp rfl) ?_
   intro w' hw
   exact ⟨by unfold cntF; rw [if_pos h15]; unfold refT; rw [hb0, hb1]; rfl, hw.bel⟩
  ·refine kJ [(0, _), (5, _), (6, _), (7, _), (8, _)] ?_
   refine s24 ?_
   refine kJ [(0, _), (5, _), (6, _), (7, _), (8, _)] ?_
   refine s8 ?_
   refine xC (T := Int × Int × Bool) (fun q => refT l = (q.1, ((cK l q.1 (if q.2.2 = true then some q.2.1 else none) l.length : Nat) : Int))) (fun q => [(0, .slice A l.length cap), (9, .int .i64 q.1), (10, .int .i64 q.2.1), (11, .bool q.2.2)]) (fun q => []) ?_ ?_
   ·refine s15 ?_
    refine kJ [(0, _), (5, _), (6, _)] ?_
    refine s7 ?_
    exact xE (1, 0, false) (by unfold refT; rw [hb0, hb1]; rfl)
   ·rintro ⟨tm, lm, ot⟩ hq
    dsimp only at hq ⊢
    obtain ⟨li, hli⟩ : ∃ x, (if ot = true then some lm else none) = x := ⟨_, rfl⟩
    rw [hli] at hq
    refine s12 ?_
    refine xL (T := Nat) (fun k => k ≤ l.length) (fun k => [(0, .slice A l.length cap), (9, .int .i64 tm), (10, .int .i64 lm), (11, .bool ot), (12, .int .i64 (cK l tm li k : Nat)), (13, .int .i64 (k : Nat))]) (fun k => []) (fun k => l.length - k) 0 (Nat.zero_le _) ?_
    rintro k hk
    have hck := cK_le l tm li k
    refine s7 ?_
    refine JL_dec (fun h61 => ?_) (fun h61 => ?_)
    ·refine s8 ?_
     have hltx : k < l.length := by omega
     obtain ⟨bx, qx, rfl, hh⟩ := hA (by intro e; subst e; simp at hltx)
     obtain ⟨⟨xt, xn, xx, xy⟩, hx⟩ : ∃ y, l[k]'hltx = y := ⟨_, rfl⟩
     have hmx : (⟨xt, xn, xx, xy⟩ : St) ∈ l := by rw [← hx]; exact List.getElem_mem _
     obtain hot | hot : ot = true ∨ ot = false := by cases ot <;> simp
     all_goals subst hot
     ·have hli2 : li = some lm := hli.symm
      refine kJ [(0, _), (9, _), (10, _), (11, _), (12, _), (13, _)] ?_
      refine s5 ?_
      refine aV (vHold (v := .int .i64 xt) rfl rfl (fun h => h) hh hltx (by omega) (by rw [hx]; rfl)) ?_
      refine s2 ?_
      refine JL_dec (fun h70 => ?_) (fun h70 => ?_)
      ·refine s5 ?_
       refine aV (vHoldP (i := 2) (m := 2) (cs := [.int .i64 xx, .int .i64 xy]) rfl rfl (fun h => h) hh hltx rfl (by omega) (by rw [hx]; rfl)) ?_
       refine aCB (fun w hw => refInHouse xx xy (okm _ hmx).2.1 w) ?_
       refine JL_dec (fun h77 => ?_) (fun h77 => ?_)
       ·refine s9 ?_
        refine aV (vHoldP (i := 2) (m := 2) (cs := [.int .i64 xx, .int .i64 xy]) rfl rfl (fun h => h) hh hltx rfl (by omega) (by rw [hx]; rfl)) ?_
        refine aCB (fun w hw => refSquare xx xy (play_bound (okm _ hmx).2.2) w) ?_
        refine s2 ?_
        refine JL_dec (fun h90 => ?_) (fun h90 => ?_)
        ·refine s5 ?_
         refine kJ [(0, _), (9, _), (10, _), (11, _), (12, _), (13, _)] ?_
         refine s12 ?_
         have hs := cK_y (lim := li) hltx hx h70 h77 (.inr (by rw [hli2]; exact h90))
         exact xR (k + 1) (by omega) (by omega) (hl := ⟨rfl, rfl, rfl, rfl, (by rw [hs]; exact congrArg some (by go_num)), (congrArg some (by go_num)), trivial⟩)
        ·refine s8 ?_
         refine kJ [(0, _), (9, _), (10, _), (11, _), (12, _), (13, _)] ?_
         refine s5 ?_
         have hs := cK_n (t := tm) (lim := li) hltx hx (fun h => h.2.elim (fun h => by rw [hli2] at h; cases h) (fun h => h90 (by rw [hli2] at h; exact h)))
         exact xR (k + 1) (by omega) (by omega) (hl := ⟨rfl, rfl, rfl, rfl, (by rw [hs]; rfl), (congrArg some (by go_num)), trivial⟩)
       ·refine s21 ?_
        refine kJ [(0, _), (9, _), (10, _), (11, _), (12, _), (13, _)] ?_
        refine s5 ?_
        have hs := cK_n (t := tm) (lim := li) hltx hx (fun h => h77 h.1.2)
        exact xR (k + 1) (by omega) (by omega) (hl := ⟨rfl, rfl, rfl, rfl, (by rw [hs]; rfl), (congrArg some (by go_num)), trivial⟩)
      ·refine s28 ?_
       refine kJ [(0, _), (9, _), (10, _), (11, _), (12, _), (13, _)] ?_
       refine s5 ?_
       have hs := cK_n (t := tm) (lim := li) hltx hx (fun h => h70 h.1.1)
       exact xR (k + 1) (by omega) (by omega) (hl := ⟨rfl, rfl, rfl, rfl, (by rw [hs]; rfl), (congrArg some (by go_num)), trivial⟩)
     ·have hli2 : li = none := hli.symm
      refine kJ [(0, _), (9, _), (10, _), (11, _), (12, _), (13, _)] ?_
      refine s5 ?_
      refine aV (vHold (v := .int .i64 xt) rfl rfl (fun h => h) hh hltx (by omega) (by rw [hx]; rfl)) ?_
      refine s2 ?_
      refine JL_dec (fun h70 => ?_) (fun h70 => ?_)
      ·refine s5 ?_
       refine aV (vHoldP (i := 2) (m := 2) (cs := [.int .i64 xx, .int .i64 xy]) rfl rfl (fun h => h) hh hltx rfl (by omega) (by rw [hx]; rfl)) ?_
       refine aCB (fun w hw => refInHouse xx xy (okm _ hmx).2.1 w) ?_
       refine JL_dec (fun h77 => ?_) (fun h77 => ?_)
       ·refine s18 ?_
        refine kJ [(0, _), (9, _), (10, _), (11, _), (12, _), (13, _)] ?_
        refine s12 ?_
        have hs := cK_y (lim := li) hltx hx h70 h77 (.inl hli2)
        exact xR (k + 1) (by omega) (by omega) (hl := ⟨rfl, rfl, rfl, rfl, (by rw [hs]; exact congrArg some (by go_num)), (congrArg some (by go_num)), trivial⟩)
       ·refine s21 ?_
        refine kJ [(0, _), (9, _), (10, _), (11, _), (12, _), (13, _)] ?_
        refine s5 ?_
        have hs := cK_n (t := tm) (lim := li) hltx hx (fun h => h77 h.1.2)
        exact xR (k + 1) (by omega) (by omega) (hl := ⟨rfl, rfl, rfl, rfl, (by rw [hs]; rfl), (congrArg some (by go_num)), trivial⟩)
      ·refine s28 ?_
       refine kJ [(0, _), (9, _), (10, _), (11, _), (12, _), (13, _)] ?_
       refine s5 ?_
       have hs := cK_n (t := tm) (lim := li) hltx hx (fun h => h70 h.1.1)
       exact xR (k + 1) (by omega) (by omega) (hl := ⟨rfl, rfl, rfl, rfl, (by rw [hs]; rfl), (congrArg some (by go_num)), trivial⟩)
    ·refine s9 ?_
     refine kJ [(9, _), (12, _)] ?_
     refine s9 ?_
     refine JR_three rfl (rr_tmp rfl) (rr_tmp rfl) (rr_tmp rfl) ?_
     intro w' hw
     obtain rfl : k = l.length := by omega
     exact ⟨by unfold cntF; rw [if_pos h15, hq], hw.bel⟩
  ·refine kJ [(0, _), (5, _), (6, _), (7, _), (8, _)] ?_
   refine s24 ?_
   refine kJ [(0, _), (5, _), (6, _), (7, _), (8, _)] ?_
   refine s8 ?_
   refine xC (T := Int × Int × Bool) (fun q => refT l = (q.1, ((cK l q.1 (if q.2.2 = true then some q.2.1 else none) l.length : Nat) : Int))) (fun q => [(0, .slice A l.length cap), (9, .int .i64 q.1), (10, .int .i64 q.2.1), (11, .bool q.2.2)]) (fun q => []) ?_ ?_
   ·refine s16 ?_
    exact xE (0, 0, false) (by unfold refT; rw [hb0, hb1]; rfl)
   ·rintro ⟨tm, lm, ot⟩ hq
    dsimp only at hq ⊢
    obtain ⟨li, hli⟩ : ∃ x, (if ot = true then some lm else none) = x := ⟨_, rfl⟩
    rw [hli] at hq
    refine s12 ?_
    refine xL (T := Nat) (fun k => k ≤ l.length) (fun k => [(0, .slice A l.length cap), (9, .int .i64 tm), (10, .int .i64 lm), (11, .bool ot), (12, .int .i64 (cK l tm li k : Nat)), (13, .int .i64 (k : Nat))]) (fun k => []) (fun k => l.length - k) 0 (Nat.zero_le _) ?_
    rintro k hk
    have hck := cK_le l tm li k
    refine s7 ?_
    refine JL_dec (fun h61 => ?_) (fun h61 => ?_)
    ·refine s8 ?_
     have hltx : k < l.length := by omega
     obtain ⟨bx, qx, rfl, hh⟩ := hA (by intro e; subst e; simp at hltx)
     obtain ⟨⟨xt, xn, xx, xy⟩, hx⟩ : ∃ y, l[k]'hltx = y := ⟨_, rfl⟩
     have hmx : (⟨xt, xn, xx, xy⟩ : St) ∈ l := by rw [← hx]; exact List.getElem_mem _
     obtain hot | hot : ot = true ∨ ot = false := by cases ot <;> simp
     all_goals subst hot
     ·have hli2 : li = some lm := hli.symm
      refine kJ [(0, _), (9, _), (10, _), (11, _), (12, _), (13, _)] ?_
      refine s5 ?_
      refine aV (vHold (v := .int .i64 xt) rfl rfl (fun h => h) hh hltx (by omega) (by rw [hx]; rfl)) ?_
      refine s2 ?_
      refine JL_dec (fun h70 => ?_) (fun h70 => ?_)
      ·refine s5 ?_
       refine aV (vHoldP (i := 2) (m := 2) (cs := [.int .i64 xx, .int .i64 xy]) rfl rfl (fun h => h) hh hltx rfl (by omega) (by rw [hx]; rfl)) ?_
       refine aCB (fun w hw => refInHouse xx xy (okm _ hmx).2.1 w) ?_
       refine JL_dec (fun h77 => ?_) (fun h77 => ?_)
       ·refine s9 ?_
        refine aV (vHoldP (i := 2) (m := 2) (cs := [.int .i64 xx, .int .i64 xy]) rfl rfl (fun h => h) hh hltx rfl (by omega) (by rw [hx]; rfl)) ?_
        refine aCB (fun w hw => refSquare xx xy (play_bound (okm _ hmx).2.2) w) ?_
        refine s2 ?_
        refine JL_dec (fun h90 => ?_) (fun h90 => ?_)
        ·refine s5 ?_
         refine kJ [(0, _), (9, _), (10, _), (11, _), (12, _), (13, _)] ?_
         refine s12 ?_
         have hs := cK_y (lim := li) hltx hx h70 h77 (.inr (by rw [hli2]; exact h90))
         exact xR (k + 1) (by omega) (by omega) (hl := ⟨rfl, rfl, rfl, rfl, (by rw [hs]; exact congrArg some (by go_num)), (congrArg some (by go_num)), trivial⟩)
        ·refine s8 ?_
         refine kJ [(0, _), (9, _), (10, _), (11, _), (12, _), (13, _)] ?_
         refine s5 ?_
         have hs := cK_n (t := tm) (lim := li) hltx hx (fun h => h.2.elim (fun h => by rw [hli2] at h; cases h) (fun h => h90 (by rw [hli2] at h; exact h)))
         exact xR (k + 1) (by omega) (by omega) (hl := ⟨rfl, rfl, rfl, rfl, (by rw [hs]; rfl), (congrArg some (by go_num)), trivial⟩)
       ·refine s21 ?_
        refine kJ [(0, _), (9, _), (10, _), (11, _), (12, _), (13, _)] ?_
        refine s5 ?_
        have hs := cK_n (t := tm) (lim := li) hltx hx (fun h => h77 h.1.2)
        exact xR (k + 1) (by omega) (by omega) (hl := ⟨rfl, rfl, rfl, rfl, (by rw [hs]; rfl), (congrArg some (by go_num)), trivial⟩)
      ·refine s28 ?_
       refine kJ [(0, _), (9, _), (10, _), (11, _), (12, _), (13, _)] ?_
       refine s5 ?_
       have hs := cK_n (t := tm) (lim := li) hltx hx (fun h => h70 h.1.1)
       exact xR (k + 1) (by omega) (by omega) (hl := ⟨rfl, rfl, rfl, rfl, (by rw [hs]; rfl), (congrArg some (by go_num)), trivial⟩)
     ·have hli2 : li = none := hli.symm
      refine kJ [(0, _), (9, _), (10, _), (11, _), (12, _), (13, _)] ?_
      refine s5 ?_
      refine aV (vHold (v := .int .i64 xt) rfl rfl (fun h => h) hh hltx (by omega) (by rw [hx]; rfl)) ?_
      refine s2 ?_
      refine JL_dec (fun h70 => ?_) (fun h70 => ?_)
      ·refine s5 ?_
       refine aV (vHoldP (i := 2) (m := 2) (cs := [.int .i64 xx, .int .i64 xy]) rfl rfl (fun h => h) hh hltx rfl (by omega) (by rw [hx]; rfl)) ?_
       refine aCB (fun w hw => refInHouse xx xy (okm _ hmx).2.1 w) ?_
       refine JL_dec (fun h77 => ?_) (fun h77 => ?_)
       ·refine s18 ?_
        refine kJ [(0, _), (9, _), (10, _), (11, _), (12, _), (13, _)] ?_
        refine s12 ?_
        have hs := cK_y (lim := li) hltx hx h70 h77 (.inl hli2)
        exact xR (k + 1) (by omega) (by omega) (hl := ⟨rfl, rfl, rfl, rfl, (by rw [hs]; exact congrArg some (by go_num)), (congrArg some (by go_num)), trivial⟩)
       ·refine s21 ?_
        refine kJ [(0, _), (9, _), (10, _), (11, _), (12, _), (13, _)] ?_
        refine s5 ?_
        have hs := cK_n (t := tm) (lim := li) hltx hx (fun h => h77 h.1.2)
        exact xR (k + 1) (by omega) (by omega) (hl := ⟨rfl, rfl, rfl, rfl, (by rw [hs]; rfl), (congrArg some (by go_num)), trivial⟩)
      ·refine s28 ?_
       refine kJ [(0, _), (9, _), (10, _), (11, _), (12, _), (13, _)] ?_
       refine s5 ?_
       have hs := cK_n (t := tm) (lim := li) hltx hx (fun h => h70 h.1.1)
       exact xR (k + 1) (by omega) (by omega) (hl := ⟨rfl, rfl, rfl, rfl, (by rw [hs]; rfl), (congrArg some (by go_num)), trivial⟩)
    ·refine s9 ?_
     refine kJ [(9, _), (12, _)] ?_
     refine s9 ?_
     refine JR_three rfl (rr_tmp rfl) (rr_tmp rfl) (rr_tmp rfl) ?_
     intro w' hw
     obtain rfl : k = l.length := by omega
     exact ⟨by unfold cntF; rw [if_pos h15, hq], hw.bel⟩
  ·refine kJ [(0, _), (5, _), (6, _), (7, _), (8, _)] ?_
   refine s16 ?_
   refine JL_dec (fun h41 => ?_) (fun h41 => ?_)
   ·refine s6 ?_
    refine kJ [] ?_
    refine s8 ?_
    refine JR_three rfl (rr_tmp rfl) (rr_tmp rfl) (rr_tmp rfl) ?_
    intro w' hw
    exact ⟨by unfold cntF; rw [if_pos h15]; unfold refT; rw [hb0, hb1]; unfold refP; simp only; rw [if_pos (show m0 = m1 from h41)], hw.bel⟩
   ·refine s8 ?_
    refine kJ [(0, _), (5, _), (6, _), (7, _), (8, _)] ?_
    refine s8 ?_
    refine xC (T := Int × Int × Bool) (fun q => refT l = (q.1, ((cK l q.1 (if q.2.2 = true then some q.2.1 else none) l.length : Nat) : Int))) (fun q => [(0, .slice A l.length cap), (9, .int .i64 q.1), (10, .int .i64 q.2.1), (11, .bool q.2.2)]) (fun q => []) ?_ ?_
    ·refine s10 ?_
     refine JL_dec (fun h53 => ?_) (fun h53 => ?_)
     ·refine s5 ?_
      refine kJ [(0, _), (5, _), (6, _)] ?_
      refine s7 ?_
      exact xE (1, m0, true) (by unfold refT; rw [hb0, hb1]; unfold refP; simp only; rw [if_neg (show ¬ m0 = m1 from h41), if_pos (show m1 < m0 from h53)]; rfl)
     ·refine s6 ?_
      exact xE (0, m1, true) (by unfold refT; rw [hb0, hb1]; unfold refP; simp only; rw [if_neg (show ¬ m0 = m1 from h41), if_neg (show ¬ m1 < m0 from h53)]; rfl)
    ·rintro ⟨tm, lm, ot⟩ hq
     dsimp only at hq ⊢
     obtain ⟨li, hli⟩ : ∃ x, (if ot = true then some lm else none) = x := ⟨_, rfl⟩
     rw [hli] at hq
     refine s12 ?_
     refine xL (T := Nat) (fun k => k ≤ l.length) (fun k => [(0, .slice A l.length cap), (9, .int .i64 tm), (10, .int .i64 lm), (11, .bool ot), (12, .int .i64 (cK l tm li k : Nat)), (13, .int .i64 (k : Nat))]) (fun k => []) (fun k => l.length - k) 0 (Nat.zero_le _) ?_
     rintro k hk
     have hck := cK_le l tm li k
     refine s7 ?_
     refine JL_dec (fun h61 => ?_) (fun h61 => ?_)
     ·refine s8 ?_
      have hltx : k < l.length := by omega
      obtain ⟨bx, qx, rfl, hh⟩ := hA (by intro e; subst e; simp at hltx)
      obtain ⟨⟨xt, xn, xx, xy⟩, hx⟩ : ∃ y, l[k]'hltx = y := ⟨_, rfl⟩
      have hmx : (⟨xt, xn, xx, xy⟩ : St) ∈ l := by rw [← hx]; exact List.getElem_mem _
      obtain hot | hot : ot = true ∨ ot = false := by cases ot <;> simp
      all_goals subst hot
      ·have hli2 : li = some lm := hli.symm
       refine kJ [(0, _), (9, _), (10, _), (11, _), (12, _), (13, _)] ?_
       refine s5 ?_
       refine aV (vHold (v := .int .i64 xt) rfl rfl (fun h => h) hh hltx (by omega) (by rw [hx]; rfl)) ?_
       refine s2 ?_
       refine JL_dec (fun h70 => ?_) (fun h70 => ?_)
       ·refine s5 ?_
        refine aV (vHoldP (i := 2) (m := 2) (cs := [.int .i64 xx, .int .i64 xy]) rfl rfl (fun h => h) hh hltx rfl (by omega) (by rw [hx]; rfl)) ?_
        refine aCB (fun w hw => refInHouse xx xy (okm _ hmx).2.1 w) ?_
        refine JL_dec (fun h77 => ?_) (fun h77 => ?_)
        ·refine s9 ?_
         refine aV (vHoldP (i := 2) (m := 2) (cs := [.int .i64 xx, .int .i64 xy]) rfl rfl (fun h => h) hh hltx rfl (by omega) (by rw [hx]; rfl)) ?_
         refine aCB (fun w hw => refSquare xx xy (play_bound (okm _ hmx).2.2) w) ?_
         refine s2 ?_
         refine JL_dec (fun h90 => ?_) (fun h90 => ?_)
         ·refine s5 ?_
          refine kJ [(0, _), (9, _), (10, _), (11, _), (12, _), (13, _)] ?_
          refine s12 ?_
          have hs := cK_y (lim := li) hltx hx h70 h77 (.inr (by rw [hli2]; exact h90))
          exact xR (k + 1) (by omega) (by omega) (hl := ⟨rfl, rfl, rfl, rfl, (by rw [hs]; exact congrArg some (by go_num)), (congrArg some (by go_num)), trivial⟩)
         ·refine s8 ?_
          refine kJ [(0, _), (9, _), (10, _), (11, _), (12, _), (13, _)] ?_
          refine s5 ?_
          have hs := cK_n (t := tm) (lim := li) hltx hx (fun h => h.2.elim (fun h => by rw [hli2] at h; cases h) (fun h => h90 (by rw [hli2] at h; exact h)))
          exact xR (k + 1) (by omega) (by omega) (hl := ⟨rfl, rfl, rfl, rfl, (by rw [hs]; rfl), (congrArg some (by go_num)), trivial⟩)
        ·refine s21 ?_
         refine kJ [(0, _), (9, _), (10, _), (11, _), (12, _), (13, _)] ?_
         refine s5 ?_
         have hs := cK_n (t := tm) (lim := li) hltx hx (fun h => h77 h.1.2)
         exact xR (k + 1) (by omega) (by omega) (hl := ⟨rfl, rfl, rfl, rfl, (by rw [hs]; rfl), (congrArg some (by go_num)), trivial⟩)
       ·refine s28 ?_
        refine kJ [(0, _), (9, _), (10, _), (11, _), (12, _), (13, _)] ?_
        refine s5 ?_
        have hs := cK_n (t := tm) (lim := li) hltx hx (fun h => h70 h.1.1)
        exact xR (k + 1) (by omega) (by omega) (hl := ⟨rfl, rfl, rfl, rfl, (by rw [hs]; rfl), (congrArg some (by go_num)), trivial⟩)
      ·have hli2 : li = none := hli.symm
       refine kJ [(0, _), (9, _), (10, _), (11, _), (12, _), (13, _)] ?_
       refine s5 ?_
       refine aV (vHold (v := .int .i64 xt) rfl rfl (fun h => h) hh hltx (by omega) (by rw [hx]; rfl)) ?_
       refine s2 ?_
       refine JL_dec (fun h70 => ?_) (fun h70 => ?_)
       ·refine s5 ?_
        refine aV (vHoldP (i := 2) (m := 2) (cs := [.int .i64 xx, .int .i64 xy]) rfl rfl (fun h => h) hh hltx rfl (by omega) (by rw [hx]; rfl)) ?_
        refine aCB (fun w hw => refInHouse xx xy (okm _ hmx).2.1 w) ?_
        refine JL_dec (fun h77 => ?_) (fun h77 => ?_)
        ·refine s18 ?_
         refine kJ [(0, _), (9, _), (10, _), (11, _), (12, _), (13, _)] ?_
         refine s12 ?_
         have hs := cK_y (lim := li) hltx hx h70 h77 (.inl hli2)
         exact xR (k + 1) (by omega) (by omega) (hl := ⟨rfl, rfl, rfl, rfl, (by rw [hs]; exact congrArg some (by go_num)), (congrArg some (by go_num)), trivial⟩)
        ·refine s21 ?_
         refine kJ [(0, _), (9, _), (10, _), (11, _), (12, _), (13, _)] ?_
         refine s5 ?_
         have hs := cK_n (t := tm) (lim := li) hltx hx (fun h => h77 h.1.2)
         exact xR (k + 1) (by omega) (by omega) (hl := ⟨rfl, rfl, rfl, rfl, (by rw [hs]; rfl), (congrArg some (by go_num)), trivial⟩)
       ·refine s28 ?_
        refine kJ [(0, _), (9, _), (10, _), (11, _), (12, _), (13, _)] ?_
        refine s5 ?_
        have hs := cK_n (t := tm) (lim := li) hltx hx (fun h => h70 h.1.1)
        exact xR (k + 1) (by omega) (by omega) (hl := ⟨rfl, rfl, rfl, rfl, (by rw [hs]; rfl), (congrArg some (by go_num)), trivial⟩)
     ·refine s9 ?_
      refine kJ [(9, _), (12, _)] ?_
      refine s9 ?_
      refine JR_three rfl (rr_tmp rfl) (rr_tmp rfl) (rr_tmp rfl) ?_
      intro w' hw
      obtain rfl : k = l.length := by omega
      exact ⟨by unfold cntF; rw [if_pos h15, hq], hw.bel⟩
 ·refine s5 ?_
  refine kJ [] ?_
  refine s8 ?_
  refine JR_three rfl (rr_tmp rfl) (rr_tmp rfl) (rr_tmp rfl) ?_
  intro w' hw
  exact ⟨by unfold cntF; rw [h15]; rfl, hw.bel⟩
end Go.Proofs.YtomcpgdpjpjioaaGreat
/- Views. Over any program. -/
namespace Go.Proofs.YtomcpgdpjpjioaaGreat
open Go Go.RowKit Go.Proofs Go.Shelf
theorem J_view0 {α : Type} {P : Program} {n : Nat} {B : Bs} {Q : Exit → Act → World → Prop} {l : Sl} {H : List It} {c : Code} (k : Nat) (enc : α → List Value) (h : J P n B c Q l (slsB k enc [⟨none, 0, 0, []⟩] :: H)) : J P n B c Q l H := fun a w ha hw => h a w ha (hw.new (Below.refl _ _) (fun p hp => by rw [List.mem_singleton] at hp; subst hp; exact Arr.nil w) (fun b hb => by obtain ⟨p, hp, hne, -⟩ := hb; rw [List.mem_singleton] at hp; subst hp; exact absurd rfl hne))
end Go.Proofs.YtomcpgdpjpjioaaGreat
/- Layer 7: an end (document). -/
namespace Go.Proofs.YtomcpgdpjpjioaaGreat
open Go Go.RowKit Go.Proofs
attribute [local irreducible] J JQ JL JA JD

/-- The document's end: its value, and what its slices hold. -/
structure RfM where
 c : Cd
 fr : Int
 l : List St
 A : Option Addr
 k : Nat
 tn : Int
 pn : Bool
 r : Int
 h : Int
 t : OcT
abbrev Rfv (e : RfM) : Value := .agg #[.int .i64 e.c.f, .int .i64 e.c.t, .int .i64 e.c.s, .int .i64 e.c.e, .bool e.c.p, .int .i64 e.fr, .slice e.A e.l.length e.k, .int .i64 e.tn, .bool e.pn, .int .i64 e.r, .int .i64 e.h, .slice e.t.A e.t.L.length e.t.c]
abbrev rfJ (e : RfM) : List It := [slsB 4 eT [⟨e.A, e.l.length, e.k, e.l⟩], slsB 2 eO [⟨e.t.A, e.t.L.length, e.t.c, e.t.L⟩], slsB 4 eT (e.t.L.map (·.d))]
/-- It is that end. -/
structure RfP (E : En) (e : RfM) : Prop where
 c : e.c = E.c
 fr : e.fr = E.fr
 l : e.l = E.l
 tn : e.tn = E.tn
 pn : e.pn = E.p.isSome
 p : ∀ q, E.p = some q → e.r = q.1 ∧ e.h = q.2.1 ∧ e.t.L.map oP = q.2.2
 n : ∀ p ∈ e.t.L, p.d.n = p.d.l.length ∧ p.d.l.length ≤ 16
structure RfW (w : World) (e : RfM) : Prop where
 row : Arr 4 eT w (.slice e.A e.l.length e.k) e.l
 out : Arr 2 eO w (.slice e.t.A e.t.L.length e.t.c) e.t.L
 oc : ∀ p ∈ e.t.L, OcW w p
theorem RfW.of {B : Bs} {H : List It} {w : World} {e : RfM} (hw : Wd B H w) (h1 : slsB 4 eT [⟨e.A, e.l.length, e.k, e.l⟩] ∈ H) (h2 : slsB 2 eO [⟨e.t.A, e.t.L.length, e.t.c, e.t.L⟩] ∈ H) (h3 : slsB 4 eT (e.t.L.map (·.d)) ∈ H) : RfW w e :=
 ⟨sls_arr hw h1 (List.mem_singleton.2 rfl), sls_arr hw h2 (List.mem_singleton.2 rfl), fun p hp => sls_arr hw h3 (List.mem_map.2 ⟨p, hp, rfl⟩)⟩
theorem RfW.up {w w' : World} {e : RfM} (h : RfW w e) (hb : Below w.heap.size w w') : RfW w' e := ⟨h.row.up ET hb, h.out.up EO hb, fun p hp => (h.oc p hp).up hb⟩
def nextR (e : RfM) : Int × Int × Int := if e.pn = true ∨ e.tn = 2 * e.c.e then (0, 0, 9) else ((e.fr + e.tn) % 2, e.tn / 2, 0)
theorem next_eq {E : En} {e : RfM} (h : RfP E e) : nextR e = nextF E := by unfold nextR nextF; rw [h.pn, h.tn, h.c, h.fr]
abbrev oc0 : OcT := ⟨none, 0, []⟩
def tookR (e : RfM) (o : Oc) : RfM := { e with pn := false, r := 0, h := 0, t := oc0, l := o.d.l, A := o.d.A, k := o.d.c, tn := if o.g = true then e.tn else e.tn + 1 }
set_option maxRecDepth 100000 in
set_option maxHeartbeats 4000000 in
theorem refNext (e : RfM) (w : World) (h1 : 1 ≤ e.c.e ∧ e.c.e ≤ 8) (h2 : 0 ≤ e.tn ∧ e.tn ≤ 16) (h3 : 0 ≤ e.fr ∧ e.fr ≤ 1) : Calls Tryz.prog 48 #[Rfv e] w (Back (.tuple #[.int .i64 (nextR e).1, .int .i64 (nextR e).2.1, .int .i64 (nextR e).2.2]) w) := by
 obtain ⟨⟨kf, kt, ks, ke, kp⟩, fr, l, A, k, tn, pn, r, ch, ⟨tA, tc, tL⟩⟩ := e
 dsimp only at h1 h2 h3
 refine J_enter (fun _ => False) (vs := [.agg #[.int .i64 kf, .int .i64 kt, .int .i64 ks, .int .i64 ke, .bool kp, .int .i64 fr, .slice A l.length k, .int .i64 tn, .bool pn,   .int .i64 r, .int .i64 ch, .slice tA tL.length tc]]) (k := 24) (l := [(0, .agg #[.int .i64 kf, .int .i64 kt, .int .i64 ks, .int .i64 ke, .bool kp, .int .i64 fr, .slice A l.length k, .int .i64 tn, .bool pn,   .int .i64 r, .int .i64 ch, .slice tA tL.length tc])]) Tryz.func48 rfl rfl Tryz.ntmps48 rfl rfl (Wd.start _) ?_
 refine s2 ?_
 refine aW (oX [_, _, _, _, _, _, _, _, _, _, _, _]) (fun b1 hb1 => ?_)
 refine s7 ?_
 refine kJ [(1, _)] ?_
 refine s3 ?_
 refine JL_bool (fun h6 => ?_) (fun h6 => ?_)
 ·refine s13 ?_
  refine kJ [] ?_
  refine s8 ?_
  refine JR_three rfl (rr_tmp rfl) (rr_tmp rfl) (rr_tmp rfl) ?_
  intro w' hw
  have e : nextR (⟨⟨kf, kt, ks, ke, kp⟩, fr, l, A, k, tn, pn, r, ch, ⟨tA, tc, tL⟩⟩ : RfM) = (0, 0, 9) := by unfold nextR; rw [if_pos (.inl h6)]
  exact ⟨by rw [e], hw.bel⟩
 ·refine s8 ?_
  refine JL_dec (fun h14 => ?_) (fun h14 => ?_)
  ·refine s5 ?_
   refine kJ [] ?_
   refine s8 ?_
   refine JR_three rfl (rr_tmp rfl) (rr_tmp rfl) (rr_tmp rfl) ?_
   intro w' hw
   have e : nextR (⟨⟨kf, kt, ks, ke, kp⟩, fr, l, A, k, tn, pn, r, ch, ⟨tA, tc, tL⟩⟩ : RfM) = (0, 0, 9) := by unfold nextR; rw [if_pos (.inr h14)]
   exact ⟨by rw [e], hw.bel⟩
  ·refine s7 ?_
   refine kJ [(1, _)] ?_
   refine xD [0, 1, 2, 3, 4, 5, 6, 7, 8, 9, 10, 11] [1, 3, 7] ?_
   refine s15 ?_
   refine JR_three rfl (rr_tmp rfl) (rr_tmp rfl) (rr_tmp rfl) ?_
   intro w' hw
   have e : nextR (⟨⟨kf, kt, ks, ke, kp⟩, fr, l, A, k, tn, pn, r, ch, ⟨tA, tc, tL⟩⟩ : RfM) = ((fr + tn) % 2, tn / 2, 0) := by unfold nextR; rw [if_neg (fun h => h.elim (fun h => by rw [h6] at h; cases h) h14)]
   exact ⟨by rw [e], hw.bel⟩
set_option maxRecDepth 100000 in
set_option maxHeartbeats 4000000 in
theorem reftaken (e : RfM) (uA : Option Addr) (ul : List St) (uk : Nat) (ug : Bool) (w : World) (h2 : 0 ≤ e.tn ∧ e.tn ≤ 16) : Calls Tryz.prog 50 #[Rfv e, .agg #[.slice uA ul.length uk, .bool ug]] w (Back (Rfv (tookR e ⟨⟨uA, ul.length, uk, ul⟩, ug⟩)) w) := by
 obtain ⟨⟨kf, kt, ks, ke, kp⟩, fr, l, A, k, tn, pn, r, ch, ⟨tA, tc, tL⟩⟩ := e
 dsimp only at h2
 refine J_enter (fun _ => False) (vs := [.agg #[.int .i64 kf, .int .i64 kt, .int .i64 ks, .int .i64 ke, .bool kp, .int .i64 fr, .slice A l.length k, .int .i64 tn, .bool pn,   .int .i64 r, .int .i64 ch, .slice tA tL.length tc], .agg #[.slice uA ul.length uk, .bool ug]]) (k := 17) (l := [(0, .agg #[.int .i64 kf, .int .i64 kt, .int .i64 ks, .int .i64 ke, .bool kp, .int .i64 fr, .slice A l.length k, .int .i64 tn, .bool pn,   .int .i64 r, .int .i64 ch, .slice tA tL.length tc]), (1, .agg #[.slice uA ul.length uk, .bool ug])]) Tryz.func50 rfl rfl Tryz.ntmps50 rfl rfl (Wd.start _) ?_
 refine s2 ?_
 refine aW (oX [_, _, _, _, _, _, _, _, _, _, _, _]) (fun b2 hb2 => ?_)
 refine aW (oX [_, _]) (fun b3 hb3 => ?_)
 refine aW oA (fun b4 hb4 => ?_)
 refine s10 ?_
 refine aP (rp_buildC (fun us => [.int .i64 0, .int .i64 0, .slice none 0 0]) rfl rfl (fun w => by kernel_rfl)) ?_
 refine s5 ?_
 refine kJ [(2, _), (3, _), (4, _)] ?_
 refine s12 ?_
 refine JL_bool (fun h12 => ?_) (fun h12 => ?_)
 ·refine s7 ?_
  refine kJ [(2, _), (4, _)] ?_
  refine s1 ?_
  refine aV (vAgg [_, _, _, _, _, _, _, _, _, _, _, _] rfl rfl rfl (by repeat constructor) rfl) ?_
  refine aW0 (wStore (cs := [_, _, _, _, _, _, _, _, _, _, _, _]) rfl rfl rfl rfl rfl rfl rfl (by repeat constructor) rfl rfl) ?_
  refine s3 ?_
  refine JR_one rfl (rr_agg (cs := [_, _, _, _, _, _, _, _, _, _, _, _]) rfl Agg.h (Siz.h (k := 12)) (by repeat constructor) (by rfl)) ?_
  intro w' hw
  exact ⟨by unfold tookR; dsimp only; rw [h12]; rfl, hw.bel⟩
 ·refine s4 ?_
  refine kJ [(2, _), (4, _)] ?_
  refine s9 ?_
  refine kJ [(2, _), (4, _)] ?_
  refine s1 ?_
  refine aV (vAgg [_, _, _, _, _, _, _, _, _, _, _, _] rfl rfl rfl (by repeat constructor) rfl) ?_
  refine aW0 (wStore (cs := [_, _, _, _, _, _, _, _, _, _, _, _]) rfl rfl rfl rfl rfl rfl rfl (by repeat constructor) rfl rfl) ?_
  refine s3 ?_
  refine JR_one rfl (rr_agg (cs := [_, _, _, _, _, _, _, _, _, _, _, _]) rfl Agg.h (Siz.h (k := 12)) (by repeat constructor) (by rfl)) ?_
  intro w' hw
  exact ⟨by unfold tookR; dsimp only; rw [h12]; rfl, hw.bel⟩
set_option maxRecDepth 100000 in
set_option maxHeartbeats 4000000 in
theorem refScore (e : RfM) (w : World) (hrow : Arr 4 eT w (.slice e.A e.l.length e.k) e.l) (h1 : 1 ≤ e.c.e ∧ e.c.e ≤ 8) : Calls Tryz.prog 49 #[Rfv e] w (Back (.tuple #[.int .i64 (if e.tn < 2 * e.c.e then (0, 0, 9) else cntF e.l).1, .int .i64 (if e.tn < 2 * e.c.e then (0, 0, 9) else cntF e.l).2.1, .int .i64 (if e.tn < 2 * e.c.e then (0, 0, 9) else cntF e.l).2.2]) w) := by
 obtain ⟨⟨kf, kt, ks, ke, kp⟩, fr, l, A, k, tn, pn, r, ch, ⟨tA, tc, tL⟩⟩ := e
 dsimp only at h1 hrow ⊢
 refine J_enter (fun _ => False) (vs := [.agg #[.int .i64 kf, .int .i64 kt, .int .i64 ks, .int .i64 ke, .bool kp, .int .i64 fr, .slice A l.length k, .int .i64 tn, .bool pn,   .int .i64 r, .int .i64 ch, .slice tA tL.length tc]]) (k := 17) (l := [(0, .agg #[.int .i64 kf, .int .i64 kt, .int .i64 ks, .int .i64 ke, .bool kp, .int .i64 fr, .slice A l.length k, .int .i64 tn, .bool pn,   .int .i64 r, .int .i64 ch, .slice tA tL.length tc])]) Tryz.func49 rfl rfl Tryz.ntmps49 rfl rfl (Wd.start _) ?_
 refine s2 ?_
 refine aW (oX [_, _, _, _, _, _, _, _, _, _, _, _]) (fun b1 hb1 => ?_)
 refine s7 ?_
 refine kJ [(1, _)] ?_
 refine s8 ?_
 refine JL_dec (fun h11 => ?_) (fun h11 => ?_)
 ·refine s4 ?_
  refine kJ [] ?_
  refine s8 ?_
  refine JR_three rfl (rr_tmp rfl) (rr_tmp rfl) (rr_tmp rfl) ?_
  intro w' hw
  exact ⟨by rw [if_pos h11], hw.bel⟩
 ·refine s6 ?_
  refine kJ [(1, _)] ?_
  refine s3 ?_
  refine aCB (fun w hw => refCount l _ w (hrow.up ET hw.bel)) ?_
  refine s9 ?_
  refine JR_three rfl (rr_tmp rfl) (rr_tmp rfl) (rr_tmp rfl) ?_
  intro w' hw
  exact ⟨by rw [if_neg h11], hw.bel⟩
theorem new_two {first x : Int} (hf : 0 ≤ first ∧ first ≤ 1) : (∀ s ∈ [(⟨first, 7, x, -229376000⟩ : St), ⟨1 - first, 7, x, 39976960⟩], bnd s) ∧ dis [(⟨first, 7, x, -229376000⟩ : St), ⟨1 - first, 7, x, 39976960⟩] ∧ [(⟨first, 7, x, -229376000⟩ : St), ⟨1 - first, 7, x, 39976960⟩].Pairwise (fun a b => ¬ (a.t = b.t ∧ a.n = b.n)) := by
 refine ⟨fun s hs => ?_, fun a ha b hb h1 h2 => ?_, ?_⟩
 ·simp only [List.mem_cons, List.not_mem_nil, or_false] at hs
  unfold bnd
  rcases hs with rfl | rfl <;> dsimp only <;> omega
 ·simp only [List.mem_cons, List.not_mem_nil, or_false] at ha hb
  rcases ha with rfl | rfl <;> rcases hb with rfl | rfl <;> first | rfl | (dsimp only at h1; omega)
 ·simp; omega
set_option maxRecDepth 100000 in
set_option maxHeartbeats 4000000 in
theorem refNew (c : Cd) (first power : Int) (w : World) (hf : 0 ≤ first ∧ first ≤ 1) (hp : -1 ≤ power ∧ power ≤ 1) : Calls Tryz.prog 17 #[Cdv c, .int .i64 first, .int .i64 power] w (Ret w (fun e => RfP (newE c first power) e ∧ e.t = oc0) Rfv (fun e => [ownB 43 4 e.A e.l.length e.k (e.l.flatMap eT)])) := by
 obtain ⟨kf, kt, ks, ke, kp⟩ := c
 refine J_enter (fun _ => False) (vs := [.agg #[.int .i64 kf, .int .i64 kt, .int .i64 ks, .int .i64 ke, .bool kp], .int .i64 first, .int .i64 power]) (k := 28) (l := [(0, .agg #[.int .i64 kf, .int .i64 kt, .int .i64 ks, .int .i64 ke, .bool kp]), (1, .int .i64 first), (2, .int .i64 power)]) Tryz.func17 rfl rfl Tryz.ntmps17 rfl rfl (Wd.start _) ?_
 refine s2 ?_
 refine aW (oX [_, _, _, _, _]) (fun b3 hb3 => ?_)
 refine aW oA (fun b6 hb6 => ?_)
 refine s6 ?_
 refine aP (rp_buildC (fun us => [us.getD 0 undef, us.getD 1 undef, .slice none 0 0, .int .i64 0, .bool false, .int .i64 0, .int .i64 0, .slice none 0 0]) rfl rfl (fun w => by kernel_rfl)) ?_
 refine aW oA (fun b7 hb7 => ?_)
 refine aW0 (wStore (cs := [_, _, _, _, _, _, _, _, _, _, _, _]) rfl rfl rfl rfl rfl rfl rfl (by repeat constructor) rfl rfl) ?_
 refine s4 ?_
 refine kJ [(1, _), (2, _), (3, _), (6, _), (7, _)] ?_
 refine s3 ?_
 refine JL_bool (fun h14 => ?_) (fun h14 => ?_)
 ·refine s11 ?_
  refine kJ [(1, _), (6, _), (7, _), (8, _)] ?_
  refine s3 ?_
  refine aP (rp_buildC (fun us => [us.getD 0 undef, us.getD 1 undef]) rfl rfl (fun w => by kernel_rfl)) ?_
  refine aP (rp_buildC (fun us => [us.getD 0 undef, us.getD 1 undef, us.getD 2 undef]) rfl rfl (fun w => by kernel_rfl)) ?_
  refine s3 ?_
  refine aP (rp_buildC (fun us => [us.getD 0 undef, us.getD 1 undef]) rfl rfl (fun w => by kernel_rfl)) ?_
  refine aP (rp_buildC (fun us => [us.getD 0 undef, us.getD 1 undef, us.getD 2 undef]) rfl rfl (fun w => by kernel_rfl)) ?_
  refine aW (ow_sliceC (vs := [_, _, _, _, _, _, _, _]) (ty := 43) rfl rfl (by rfl) rfl rfl (fun _ => by kernel_rfl)) (fun b26 hb26 => ?_)
  refine JL_asOwn (b := b26) (kk := 4) (m := 2) (by repeat constructor) rfl (by omega) ?_
  refine s3 ?_
  refine kJ [(6, _), (7, _), (9, _)] ?_
  refine s2 ?_
  refine aS (oS (fun w hw => refSorted [(⟨first, 7, 72089600 * power, -229376000⟩ : St), ⟨1 - first, 7, 72089600 * power, 39976960⟩] _ w (own_arr (A := some ⟨b26, 0, none⟩) (c := 2) (ty := 43) (L := [(⟨first, 7, 72089600 * power, -229376000⟩ : St), ⟨1 - first, 7, 72089600 * power, 39976960⟩]) ET hw (by repeat constructor) (Nat.le_of_ble_eq_true rfl)))) (fun A28 c28 => ?_)
  have hcm : 72089600 * power = power * 72089600 := Int.mul_comm _ _
  rw [hcm, srtQ_srt (new_two hf).1 (new_two hf).2.1 (new_two hf).2.2]
  refine s5 ?_
  refine kJ [(6, _), (7, _)] ?_
  refine s1 ?_
  refine aV (vAgg [_, _, _, _, _, _, _, _, _, _, _, _] rfl rfl rfl (by repeat constructor) rfl) ?_
  refine aW0 (wStore (cs := [_, _, _, _, _, _, _, _, _, _, _, _]) rfl rfl rfl rfl rfl rfl rfl (by repeat constructor) rfl rfl) ?_
  refine s3 ?_
  refine JR_one rfl (rr_agg (cs := [_, _, _, _, _, _, _, _, _, _, _, _]) rfl Agg.h (Siz.h (k := 12)) (by repeat constructor) (by rfl)) ?_
  intro w' hw
  subst h14
  exact ⟨⟨⟨kf, kt, ks, ke, true⟩, first, srt [(⟨first, 7, power * 72089600, -229376000⟩ : St), ⟨1 - first, 7, power * 72089600, 39976960⟩], A28, c28, 0, false, 0, 0, oc0⟩, ⟨⟨rfl, rfl, rfl, rfl, rfl, fun q hq => (by cases hq), fun p hp => (by cases hp)⟩, rfl⟩, rfl, hw.pick (by repeat constructor)⟩
 ·refine s6 ?_
  refine J_own0 43 4 ?_
  refine kJ [(6, _), (7, _)] ?_
  refine s1 ?_
  refine aV (vAgg [_, _, _, _, _, _, _, _, _, _, _, _] rfl rfl rfl (by repeat constructor) rfl) ?_
  refine aW0 (wStore (cs := [_, _, _, _, _, _, _, _, _, _, _, _]) rfl rfl rfl rfl rfl rfl rfl (by repeat constructor) rfl rfl) ?_
  refine s3 ?_
  refine JR_one rfl (rr_agg (cs := [_, _, _, _, _, _, _, _, _, _, _, _]) rfl Agg.h (Siz.h (k := 12)) (by repeat constructor) (by rfl)) ?_
  intro w' hw
  subst h14
  exact ⟨⟨⟨kf, kt, ks, ke, false⟩, first, [], none, 0, 0, false, 0, 0, oc0⟩, ⟨⟨rfl, rfl, rfl, rfl, rfl, fun q hq => (by cases hq), fun p hp => (by cases hp)⟩, rfl⟩, rfl, hw.pick (by repeat constructor)⟩
end Go.Proofs.YtomcpgdpjpjioaaGreat
/- Layer 7: CheckThrow (document). -/
namespace Go.Proofs.YtomcpgdpjpjioaaGreat
open Go Go.RowKit Go.Proofs
attribute [local irreducible] J JQ JL JA JD

theorem is_eqK (t n : Int) (s : St) : isB t n s = eqK s.t s.n t n := rfl
theorem lookT_mem {l : List St} {t n : Int} {y : St} (h : lookT l t n = some y) : y ∈ l ∧ eqK y.t y.n t n = true := by
 have H : ∀ (l : List St) (r : Option St), (l.foldl (fun r s => if eqK s.t s.n t n = true then some s else r) r) = some y → (y ∈ l ∧ eqK y.t y.n t n = true) ∨ r = some y := by
  intro l
  induction l with
  | nil => intro r h; exact .inr h
  | cons s l ih =>
   intro r h
   rw [List.foldl_cons] at h
   rcases ih _ h with h1 | h1
   ·exact .inl ⟨List.mem_cons_of_mem _ h1.1, h1.2⟩
   ·split at h1
    ·rename_i h2; cases h1; exact .inl ⟨List.mem_cons_self, h2⟩
    ·exact .inr h1
 rcases H l none h with h1 | h1
 ·exact h1
 ·cases h1
/-- Where a stone of a name is, and the stone of a name: the same, of lists without a name twice. -/
theorem look_fidx {l : List St} (hd : dis l) (t n : Int) : (fidx (isB t n) l = -1 ∧ lookT l t n = none) ∨ ∃ (k : Nat) (hk : k < l.length), fidx (isB t n) l = k ∧ lookT l t n = some (l[k]'hk) := by
 by_cases h : 0 ≤ fidx (isB t n) l
 ·obtain ⟨k, hk, e, h1, -⟩ := fidx_in h
  refine .inr ⟨k, hk, e, ?_⟩
  have hs : (lookT l t n).isSome = true := by rw [lookT_some, List.any_eq_true]; exact ⟨_, List.getElem_mem hk, h1⟩
  obtain ⟨y, hy⟩ := Option.isSome_iff_exists.1 hs
  obtain ⟨hm, he⟩ := lookT_mem hy
  rw [hy]
  obtain ⟨e1, e2⟩ := (eqK_iff _ _ _ _).1 he
  obtain ⟨e3, e4⟩ := (isB_iff _ _ _).1 h1
  rw [hd y hm _ (List.getElem_mem hk) (by rw [e1, e3]) (by rw [e2, e4])]
 ·refine .inl ⟨by have := fidx_le (isB t n) l; omega, ?_⟩
  cases hl : lookT l t n with
  | none => rfl
  | some y =>
   obtain ⟨hm, he⟩ := lookT_mem hl
   have := fidx_out h y hm
   rw [is_eqK, he] at this; cases this
/-- Are they as many, and is each of the first k stones of m one of l? -/
def smB (l m : List St) (k : Nat) : Bool := decide (l.length = m.length) && (m.take k).all (fun s => decide (s ∈ l))
theorem smB_s {l m : List St} {k : Nat} {x : St} (hk : k < m.length) (hx : m[k]'hk = x) : smB l m (k + 1) = (smB l m k && decide (x ∈ l)) := by
 unfold smB
 rw [List.take_succ_eq_append_getElem hk, List.all_append, hx]
 simp [Bool.and_assoc]
theorem in_look {l : List St} (hd : dis l) {x : St} : x ∈ l ↔ lookT l x.t x.n = some x := by
 constructor
 ·intro h
  have hs : (lookT l x.t x.n).isSome = true := by rw [lookT_some, List.any_eq_true]; exact ⟨x, h, by simp [eqK]⟩
  obtain ⟨y, hy⟩ := Option.isSome_iff_exists.1 hs
  obtain ⟨hm, he⟩ := lookT_mem hy
  obtain ⟨e1, e2⟩ := (eqK_iff _ _ _ _).1 he
  rw [hy, hd y hm x h e1 e2]
 ·intro h; exact (lookT_mem h).1
theorem sub_perm : ∀ (m l : List St), m.Nodup → (∀ s ∈ m, s ∈ l) → l.length = m.length → m.Perm l
 | [], l, _, _, h => by rw [List.length_eq_zero_iff.1 h]
 | a :: m, l, hn, hs, h => by
  rw [List.nodup_cons] at hn
  have ha : a ∈ l := hs a List.mem_cons_self
  refine List.Perm.trans ((sub_perm m (l.erase a) hn.2 (fun s hm => ?_) ?_).cons a) (List.perm_cons_erase ha).symm
  ·exact (List.mem_erase_of_ne (fun e => hn.1 (by rw [← e]; exact hm))).2 (hs s (List.mem_cons_of_mem _ hm))
  ·rw [List.length_erase_of_mem ha, h]; rfl
theorem smB_all {l m : List St} (hl : chkB l = true) (hm : chkB m = true) : smB l m m.length = decide (srt l = srt m) := by
 have nd : ∀ {x : List St}, chkB x = true → x.Nodup := fun h => (chk_pw h).imp (fun h e => h ⟨by rw [e], by rw [e]⟩)
 rw [Bool.eq_iff_iff]
 unfold smB
 rw [List.take_length, Bool.and_eq_true, decide_eq_true_eq, decide_eq_true_eq, List.all_eq_true]
 constructor
 ·rintro ⟨h1, h2⟩
  have hp : m.Perm l := sub_perm m l (nd hm) (fun s hs => of_decide_eq_true (h2 s hs)) h1
  exact (srt_uniq (chk_bnd hl) (chk_dis hl) ((srt_perm m).trans hp) (srt_pw m)).symm
 ·intro h
  refine ⟨by rw [← srt_len l, h, srt_len], fun s hs => decide_eq_true ?_⟩
  have h1 := (srt_perm m).mem_iff.2 hs
  rw [← h] at h1
  exact (srt_perm l).mem_iff.1 h1
set_option maxRecDepth 100000 in
set_option maxHeartbeats 4000000 in
theorem refCheckThrow (l m : List St) (x : Th) (v : Value) (A2 : Option Addr) (cap2 : Nat) (w : World) (hrow : Arr 4 eT w v l) (hrow2 : Arr 4 eT w (.slice A2 m.length cap2) m) : Calls Tryz.prog 51 #[v, Thv x A2 m.length cap2] w (Back (.bool (thrB l m x)) w) := by
 obtain ⟨xteam, xnn, xlate, xshort, xhow⟩ := x
 have hrow0 := hrow
 obtain ⟨A, cap, rfl, -, ⟨hl9, -⟩, hA⟩ := hrow
 have hrow20 := hrow2
 obtain ⟨A2', cap2', e2, -, ⟨hl92, -⟩, hA2⟩ := hrow2
 obtain ⟨rfl, -, rfl⟩ : A2 = A2' ∧ True ∧ cap2 = cap2' := by injection e2 with e1 _ e3; exact ⟨e1, trivial, e3⟩
 dsimp only [Thv]
 refine J_enter (fun _ => False) (vs := [.slice A l.length cap, .agg #[.int .i64 xteam, .int .i64 xnn, .bool xlate, .bool xshort, .int .i64 xhow, .slice A2 m.length cap2]]) (k := 119) (l := [(0, .slice A l.length cap), (1, .agg #[.int .i64 xteam, .int .i64 xnn, .bool xlate, .bool xshort, .int .i64 xhow, .slice A2 m.length cap2])]) Tryz.func51 rfl rfl Tryz.ntmps51 rfl rfl (Wd.start _) ?_
 refine s2 ?_
 refine aW (oX [_, _, _, _, _, _]) (fun b3 hb3 => ?_)
 refine s7 ?_
 refine aCB (fun w hw => refCheck l _ w (hrow0.up ET hw.bel)) ?_
 refine JL_bool (fun h10 => ?_) (fun h10 => ?_)
 ·refine s4 ?_
  refine aCB (fun w hw => rin _ _ _ w) ?_
  refine JL_dec (fun h15 => ?_) (fun h15 => ?_)
  ·refine s5 ?_
   refine aCB (fun w hw => rin _ _ _ w) ?_
   refine JL_dec (fun h21 => ?_) (fun h21 => ?_)
   ·refine s5 ?_
    refine aCB (fun w hw => rin _ _ _ w) ?_
    refine JL_dec (fun h27 => ?_) (fun h27 => ?_)
    ·refine s8 ?_
     refine aCB (fun w hw => find_any xteam xnn l _ w (hrow0.up ET hw.bel)) ?_
     refine s1 ?_
     refine JL_dec (fun h37 => ?_) (fun h37 => ?_)
     ·obtain ⟨hg1, hg2⟩ | ⟨kq, hkq, hg1, hg2⟩ := look_fidx (chk_dis h10) xteam xnn
      ·omega
      have hf2 : lookT l xteam xnn = some (l[kq]'hkq) := hg2
      refine s11 ?_
      refine kJ [] ?_
      refine s6 ?_
      refine JR_one rfl (rr_tmp rfl) ?_
      intro w' hw
      exact ⟨by rw [thr_no2 (x := (⟨xteam, xnn, xlate, xshort, xhow⟩ : Th)) hf2], hw.bel⟩
     ·have hf2z : lookT l xteam xnn = none := by
       obtain ⟨hg1, hg2⟩ | ⟨kq, hkq, hg1, hg2⟩ := look_fidx (chk_dis h10) xteam xnn
       ·exact hg2
       ·omega
      refine s4 ?_
      refine aCB (fun w hw => refCheck m _ w (hrow20.up ET hw.bel)) ?_
      refine JL_bool (fun h42 => ?_) (fun h42 => ?_)
      ·refine s8 ?_
       have hbl := chk_bnd h10
       have hbm := chk_bnd h42
       have hdl := chk_dis h10
       have hl16 := (chk_facts h10).1
       have hm16 := (chk_facts h42).1
       have hA0 : thrA l m (⟨xteam, xnn, xlate, xshort, xhow⟩ : Th) = true := by unfold thrA; rw [h10, h42, decide_eq_true h15, decide_eq_true h21, decide_eq_true h27]; rfl
       have hf2 := hf2z
       refine kJ [(0, _), (3, _)] ?_
       refine s12 ?_
       refine kJ [(0, _), (3, _), (5, _)] ?_
       refine s5 ?_
       refine xL (T := Nat) (fun k => k ≤ m.length ∧ ∀ j (hj : j < m.length), j < k → mayB l (⟨xteam, xnn, xlate, xshort, xhow⟩ : Th) (m[j]'hj) = true) (fun k => [(0, .slice A l.length cap), (3, .pointer (some ⟨b3, 0, none⟩)), (5, .bool (smB l m k)), (6, .int .i64 (k : Nat))]) (fun k => [cellB b3 [.int .i64 xteam, .int .i64 xnn, .bool xlate, .bool xshort, .int .i64 xhow, .slice A2 m.length cap2] 38]) (fun k => m.length - k) 0 ⟨Nat.zero_le _, fun j _ h => absurd h (Nat.not_lt_zero _)⟩ ?_ (hl := ⟨rfl, rfl, (congrArg some (congrArg Value.bool (by unfold smB; simp; omega))), rfl, trivial⟩)
       rintro k ⟨hk, hall0⟩
       refine s8 ?_
       refine JL_dec (fun h55 => ?_) (fun h55 => ?_)
       ·refine s8 ?_
        have hltx : k < m.length := by omega
        obtain ⟨bx, qx, rfl, hh2⟩ := hA2 (by intro e; subst e; simp at hltx)
        obtain ⟨⟨xt, xn, xx, xy⟩, hx⟩ : ∃ y, m[k]'hltx = y := ⟨_, rfl⟩
        have hmx : (⟨xt, xn, xx, xy⟩ : St) ∈ m := by rw [← hx]; exact List.getElem_mem _
        refine kJ [(0, _), (3, _), (5, _), (6, _)] ?_
        refine xD [0, 1, 2, 3, 4, 5, 6, 7, 8] [1, 5, 7, 11, 15, 17] ?_
        refine s3 ?_
        refine dP rfl (pIdxI (k) rfl rfl rfl) ?_
        refine s1 ?_
        refine dL rfl (vHold (v := .int .i64 xt) rfl rfl (fun h => h) hh2 hltx (by omega) (by rw [hx]; rfl)) ?_
        refine s3 ?_
        refine dDec (fun h66 => ?_) (fun h66 => ?_)
        ·refine dO [9, 10, 11, 12, 13, 14, 15, 16, 17, 18] ?_
         refine s4 ?_
         refine dP rfl (pIdxI (k) rfl rfl rfl) ?_
         refine s1 ?_
         refine dL rfl (vHold (v := .int .i64 xn) rfl rfl (fun h => h) hh2 hltx (by omega) (by rw [hx]; rfl)) ?_
         refine s3 ?_
         refine dDec (fun h76 => ?_) (fun h76 => ?_)
         ·refine dO [19, 20] ?_
          refine s5 ?_
          obtain ⟨hg1, hg2⟩ | ⟨kq, hkq, hg1, hg2⟩ := look_fidx hdl xt xn
          ·refine kJ [(0, _), (3, _), (5, _), (6, _), (7, _)] ?_
           refine xD [0, 1, 2, 3, 4, 5, 6, 7, 8, 9, 10, 11, 12, 13, 14] [2, 6, 8, 12] ?_
           refine s4 ?_
           refine dP rfl (pIdxI (k) rfl rfl rfl) ?_
           refine s1 ?_
           refine dL rfl (vHold (v := .int .i64 xt) rfl rfl (fun h => h) hh2 hltx (by omega) (by rw [hx]; rfl)) ?_
           refine s3 ?_
           refine dP rfl (pIdxI (k) rfl rfl rfl) ?_
           refine s1 ?_
           refine dL rfl (vHold (v := .int .i64 xn) rfl rfl (fun h => h) hh2 hltx (by omega) (by rw [hx]; rfl)) ?_
           refine dCB rfl (fun w hw => (find_any xt xn l _ w (hrow0.up ET hw.bel)).mono (fun _ _ hh => by rw [hg1] at hh; exact hh)) ?_
           refine s5 ?_
           refine kJ [(0, _), (3, _), (5, _), (6, _), (7, _), (8, _)] ?_
           refine s12 ?_
           obtain hsm | hsm : smB l m k = true ∨ smB l m k = false := by cases smB l m k <;> simp
           all_goals rw [hsm]
           ·refine kJ [(0, _), (3, _), (5, _), (6, _), (8, _)] ?_
            refine xD [0, 1, 2, 3, 4, 5, 6, 7, 8, 9, 10, 11, 12, 13, 14, 15, 16, 17] [9, 11, 14] ?_
            refine s4 ?_
            refine dDecF ?_ (by omega)
            refine s17 ?_
            refine kJ [(0, _), (3, _), (5, _), (6, _)] ?_
            refine s5 ?_
            have hn : ∀ j (hj : j < m.length), j < k + 1 → mayB l (⟨xteam, xnn, xlate, xshort, xhow⟩ : Th) (m[j]'hj) = true := fun j hj hjk => by
             rcases Nat.lt_or_ge j k with h | h
             ·exact hall0 j hj h
             ·obtain rfl : j = k := by omega
              rw [hx]; unfold mayB; dsimp only; rw [(eqK_iff _ _ _ _).2 ⟨h66, h76⟩, Bool.or_true]
            have hs := smB_s (l := l) hltx hx
            have hin : ¬ (⟨xt, xn, xx, xy⟩ : St) ∈ l := fun h => by have := (in_look hdl).1 h; dsimp only at this; rw [hg2] at this; cases this
            rw [hsm, decide_eq_false hin] at hs
            exact xR (k + 1) ⟨by omega, hn⟩ (by omega) (hl := ⟨rfl, rfl, (by rw [hs]; rfl), (congrArg some (by go_num)), trivial⟩)
           ·refine kJ [(0, _), (3, _), (5, _), (6, _), (8, _)] ?_
            refine xD [0, 1, 2, 3, 4, 5, 6, 7, 8, 9, 10, 11, 12, 13, 14, 15, 16, 17] [9, 11, 14] ?_
            refine s21 ?_
            refine kJ [(0, _), (3, _), (5, _), (6, _)] ?_
            refine s5 ?_
            have hn : ∀ j (hj : j < m.length), j < k + 1 → mayB l (⟨xteam, xnn, xlate, xshort, xhow⟩ : Th) (m[j]'hj) = true := fun j hj hjk => by
             rcases Nat.lt_or_ge j k with h | h
             ·exact hall0 j hj h
             ·obtain rfl : j = k := by omega
              rw [hx]; unfold mayB; dsimp only; rw [(eqK_iff _ _ _ _).2 ⟨h66, h76⟩, Bool.or_true]
            have hs := smB_s (l := l) hltx hx
            rw [hsm, Bool.false_and] at hs
            exact xR (k + 1) ⟨by omega, hn⟩ (by omega) (hl := ⟨rfl, rfl, (by rw [hs]; rfl), (congrArg some (by go_num)), trivial⟩)
          ·obtain ⟨⟨zt, zn, zx, zy⟩, hz⟩ : ∃ y, l[kq]'hkq = y := ⟨_, rfl⟩
           rw [hz] at hg2
           obtain ⟨bz, qz, rfl, hhz⟩ := hA (by intro e; subst e; simp at hkq)
           refine kJ [(0, _), (3, _), (5, _), (6, _), (7, _)] ?_
           refine xD [0, 1, 2, 3, 4, 5, 6, 7, 8, 9, 10, 11, 12, 13, 14] [2, 6, 8, 12] ?_
           refine s4 ?_
           refine dP rfl (pIdxI (k) rfl rfl rfl) ?_
           refine s1 ?_
           refine dL rfl (vHold (v := .int .i64 xt) rfl rfl (fun h => h) hh2 hltx (by omega) (by rw [hx]; rfl)) ?_
           refine s3 ?_
           refine dP rfl (pIdxI (k) rfl rfl rfl) ?_
           refine s1 ?_
           refine dL rfl (vHold (v := .int .i64 xn) rfl rfl (fun h => h) hh2 hltx (by omega) (by rw [hx]; rfl)) ?_
           refine dCB rfl (fun w hw => (find_any xt xn l _ w (hrow0.up ET hw.bel)).mono (fun _ _ hh => by rw [hg1] at hh; exact hh)) ?_
           refine s5 ?_
           refine kJ [(0, _), (3, _), (5, _), (6, _), (7, _), (8, _)] ?_
           refine s12 ?_
           obtain hsm | hsm : smB l m k = true ∨ smB l m k = false := by cases smB l m k <;> simp
           all_goals rw [hsm]
           ·refine kJ [(0, _), (3, _), (5, _), (6, _), (8, _)] ?_
            refine xD [0, 1, 2, 3, 4, 5, 6, 7, 8, 9, 10, 11, 12, 13, 14, 15] [9, 11, 14] ?_
            refine s4 ?_
            refine dDecT ?_ (by omega)
            refine s4 ?_
            refine dP rfl (pIdxI (kq) rfl rfl rfl (by omega)) ?_
            refine dL rfl (vHoldA (cs := [.int .i64 zt, .int .i64 zn, .int .i64 zx, .int .i64 zy]) ET rfl rfl (fun h => h) hhz hkq (by rw [hz]; rfl)) ?_
            refine s3 ?_
            refine dP rfl (pIdxI (k) rfl rfl rfl) ?_
            refine dL rfl (vHoldA (cs := [.int .i64 xt, .int .i64 xn, .int .i64 xx, .int .i64 xy]) ET rfl rfl (fun h => h) hh2 hltx (by rw [hx]; rfl)) ?_
            refine dP rfl (pEqlT (⟨zt, zn, zx, zy⟩ : St) (⟨xt, xn, xx, xy⟩ : St) rfl rfl rfl) ?_
            refine dBool (fun h113 => ?_) (fun h113 => ?_)
            ·refine dO [16, 17] ?_
             refine s5 ?_
             refine kJ [(0, _), (3, _), (5, _), (6, _)] ?_
             refine s5 ?_
             have hn : ∀ j (hj : j < m.length), j < k + 1 → mayB l (⟨xteam, xnn, xlate, xshort, xhow⟩ : Th) (m[j]'hj) = true := fun j hj hjk => by
              rcases Nat.lt_or_ge j k with h | h
              ·exact hall0 j hj h
              ·obtain rfl : j = k := by omega
               rw [hx]; unfold mayB; dsimp only; rw [hg2]; rfl
             have hs := smB_s (l := l) hltx hx
             have hin : (⟨xt, xn, xx, xy⟩ : St) ∈ l := by rw [← (eqS_iff _ _).1 h113, ← hz]; exact List.getElem_mem _
             rw [hsm, decide_eq_true hin] at hs
             exact xR (k + 1) ⟨by omega, hn⟩ (by omega) (hl := ⟨rfl, rfl, (by rw [hs]; rfl), (congrArg some (by go_num)), trivial⟩)
            ·refine dO [16, 17] ?_
             refine s5 ?_
             refine kJ [(0, _), (3, _), (5, _), (6, _)] ?_
             refine s5 ?_
             have hn : ∀ j (hj : j < m.length), j < k + 1 → mayB l (⟨xteam, xnn, xlate, xshort, xhow⟩ : Th) (m[j]'hj) = true := fun j hj hjk => by
              rcases Nat.lt_or_ge j k with h | h
              ·exact hall0 j hj h
              ·obtain rfl : j = k := by omega
               rw [hx]; unfold mayB; dsimp only; rw [hg2]; rfl
             have hs := smB_s (l := l) hltx hx
             have hin : ¬ (⟨xt, xn, xx, xy⟩ : St) ∈ l := fun h => by
              have h1 := (in_look hdl).1 h
              dsimp only at h1
              rw [hg2] at h1
              rw [(eqS_iff _ _).2 (Option.some.inj h1)] at h113; cases h113
             rw [hsm, decide_eq_false hin] at hs
             exact xR (k + 1) ⟨by omega, hn⟩ (by omega) (hl := ⟨rfl, rfl, (by rw [hs]; rfl), (congrArg some (by go_num)), trivial⟩)
           ·refine kJ [(0, _), (3, _), (5, _), (6, _), (8, _)] ?_
            refine xD [0, 1, 2, 3, 4, 5, 6, 7, 8, 9, 10, 11, 12, 13, 14, 15, 16, 17] [9, 11, 14] ?_
            refine s21 ?_
            refine kJ [(0, _), (3, _), (5, _), (6, _)] ?_
            refine s5 ?_
            have hn : ∀ j (hj : j < m.length), j < k + 1 → mayB l (⟨xteam, xnn, xlate, xshort, xhow⟩ : Th) (m[j]'hj) = true := fun j hj hjk => by
             rcases Nat.lt_or_ge j k with h | h
             ·exact hall0 j hj h
             ·obtain rfl : j = k := by omega
              rw [hx]; unfold mayB; dsimp only; rw [hg2]; rfl
            have hs := smB_s (l := l) hltx hx
            rw [hsm, Bool.false_and] at hs
            exact xR (k + 1) ⟨by omega, hn⟩ (by omega) (hl := ⟨rfl, rfl, (by rw [hs]; rfl), (congrArg some (by go_num)), trivial⟩)
         ·refine dO [19, 20] ?_
          refine s5 ?_
          obtain ⟨hg1, hg2⟩ | ⟨kq, hkq, hg1, hg2⟩ := look_fidx hdl xt xn
          ·refine kJ [(0, _), (3, _), (5, _), (6, _), (7, _)] ?_
           refine xD [0, 1, 2, 3, 4, 5, 6, 7, 8, 9, 10, 11, 12, 13, 14] [2, 6, 8, 12] ?_
           refine s4 ?_
           refine dP rfl (pIdxI (k) rfl rfl rfl) ?_
           refine s1 ?_
           refine dL rfl (vHold (v := .int .i64 xt) rfl rfl (fun h => h) hh2 hltx (by omega) (by rw [hx]; rfl)) ?_
           refine s3 ?_
           refine dP rfl (pIdxI (k) rfl rfl rfl) ?_
           refine s1 ?_
           refine dL rfl (vHold (v := .int .i64 xn) rfl rfl (fun h => h) hh2 hltx (by omega) (by rw [hx]; rfl)) ?_
           refine dCB rfl (fun w hw => (find_any xt xn l _ w (hrow0.up ET hw.bel)).mono (fun _ _ hh => by rw [hg1] at hh; exact hh)) ?_
           refine s5 ?_
           refine kJ [(0, _), (3, _), (5, _), (6, _), (7, _), (8, _)] ?_
           refine s6 ?_
           refine aDecT ?_ (by omega)
           refine s5 ?_
           refine kJ [] ?_
           refine s11 ?_
           refine JR_one rfl (rr_tmp rfl) ?_
           intro w' hw
           exact ⟨by rw [thr_no3 (x := (⟨xteam, xnn, xlate, xshort, xhow⟩ : Th)) (k := k) hltx (by unfold mayB; rw [hx]; dsimp only; rw [hg2]; show (false || _) = false; rw [Bool.false_or, ← Bool.not_eq_true, eqK_iff]; exact fun h => h76 h.2)], hw.bel⟩
          ·obtain ⟨⟨zt, zn, zx, zy⟩, hz⟩ : ∃ y, l[kq]'hkq = y := ⟨_, rfl⟩
           rw [hz] at hg2
           obtain ⟨bz, qz, rfl, hhz⟩ := hA (by intro e; subst e; simp at hkq)
           refine kJ [(0, _), (3, _), (5, _), (6, _), (7, _)] ?_
           refine xD [0, 1, 2, 3, 4, 5, 6, 7, 8, 9, 10, 11, 12, 13, 14] [2, 6, 8, 12] ?_
           refine s4 ?_
           refine dP rfl (pIdxI (k) rfl rfl rfl) ?_
           refine s1 ?_
           refine dL rfl (vHold (v := .int .i64 xt) rfl rfl (fun h => h) hh2 hltx (by omega) (by rw [hx]; rfl)) ?_
           refine s3 ?_
           refine dP rfl (pIdxI (k) rfl rfl rfl) ?_
           refine s1 ?_
           refine dL rfl (vHold (v := .int .i64 xn) rfl rfl (fun h => h) hh2 hltx (by omega) (by rw [hx]; rfl)) ?_
           refine dCB rfl (fun w hw => (find_any xt xn l _ w (hrow0.up ET hw.bel)).mono (fun _ _ hh => by rw [hg1] at hh; exact hh)) ?_
           refine s5 ?_
           refine kJ [(0, _), (3, _), (5, _), (6, _), (7, _), (8, _)] ?_
           refine s6 ?_
           refine aDecF ?_ (by omega)
           refine s6 ?_
           obtain hsm | hsm : smB l m k = true ∨ smB l m k = false := by cases smB l m k <;> simp
           all_goals rw [hsm]
           ·refine kJ [(0, _), (3, _), (5, _), (6, _), (8, _)] ?_
            refine xD [0, 1, 2, 3, 4, 5, 6, 7, 8, 9, 10, 11, 12, 13, 14, 15] [9, 11, 14] ?_
            refine s4 ?_
            refine dDecT ?_ (by omega)
            refine s4 ?_
            refine dP rfl (pIdxI (kq) rfl rfl rfl (by omega)) ?_
            refine dL rfl (vHoldA (cs := [.int .i64 zt, .int .i64 zn, .int .i64 zx, .int .i64 zy]) ET rfl rfl (fun h => h) hhz hkq (by rw [hz]; rfl)) ?_
            refine s3 ?_
            refine dP rfl (pIdxI (k) rfl rfl rfl) ?_
            refine dL rfl (vHoldA (cs := [.int .i64 xt, .int .i64 xn, .int .i64 xx, .int .i64 xy]) ET rfl rfl (fun h => h) hh2 hltx (by rw [hx]; rfl)) ?_
            refine dP rfl (pEqlT (⟨zt, zn, zx, zy⟩ : St) (⟨xt, xn, xx, xy⟩ : St) rfl rfl rfl) ?_
            refine dBool (fun h113 => ?_) (fun h113 => ?_)
            ·refine dO [16, 17] ?_
             refine s5 ?_
             refine kJ [(0, _), (3, _), (5, _), (6, _)] ?_
             refine s5 ?_
             have hn : ∀ j (hj : j < m.length), j < k + 1 → mayB l (⟨xteam, xnn, xlate, xshort, xhow⟩ : Th) (m[j]'hj) = true := fun j hj hjk => by
              rcases Nat.lt_or_ge j k with h | h
              ·exact hall0 j hj h
              ·obtain rfl : j = k := by omega
               rw [hx]; unfold mayB; dsimp only; rw [hg2]; rfl
             have hs := smB_s (l := l) hltx hx
             have hin : (⟨xt, xn, xx, xy⟩ : St) ∈ l := by rw [← (eqS_iff _ _).1 h113, ← hz]; exact List.getElem_mem _
             rw [hsm, decide_eq_true hin] at hs
             exact xR (k + 1) ⟨by omega, hn⟩ (by omega) (hl := ⟨rfl, rfl, (by rw [hs]; rfl), (congrArg some (by go_num)), trivial⟩)
            ·refine dO [16, 17] ?_
             refine s5 ?_
             refine kJ [(0, _), (3, _), (5, _), (6, _)] ?_
             refine s5 ?_
             have hn : ∀ j (hj : j < m.length), j < k + 1 → mayB l (⟨xteam, xnn, xlate, xshort, xhow⟩ : Th) (m[j]'hj) = true := fun j hj hjk => by
              rcases Nat.lt_or_ge j k with h | h
              ·exact hall0 j hj h
              ·obtain rfl : j = k := by omega
               rw [hx]; unfold mayB; dsimp only; rw [hg2]; rfl
             have hs := smB_s (l := l) hltx hx
             have hin : ¬ (⟨xt, xn, xx, xy⟩ : St) ∈ l := fun h => by
              have h1 := (in_look hdl).1 h
              dsimp only at h1
              rw [hg2] at h1
              rw [(eqS_iff _ _).2 (Option.some.inj h1)] at h113; cases h113
             rw [hsm, decide_eq_false hin] at hs
             exact xR (k + 1) ⟨by omega, hn⟩ (by omega) (hl := ⟨rfl, rfl, (by rw [hs]; rfl), (congrArg some (by go_num)), trivial⟩)
           ·refine kJ [(0, _), (3, _), (5, _), (6, _), (8, _)] ?_
            refine xD [0, 1, 2, 3, 4, 5, 6, 7, 8, 9, 10, 11, 12, 13, 14, 15, 16, 17] [9, 11, 14] ?_
            refine s21 ?_
            refine kJ [(0, _), (3, _), (5, _), (6, _)] ?_
            refine s5 ?_
            have hn : ∀ j (hj : j < m.length), j < k + 1 → mayB l (⟨xteam, xnn, xlate, xshort, xhow⟩ : Th) (m[j]'hj) = true := fun j hj hjk => by
             rcases Nat.lt_or_ge j k with h | h
             ·exact hall0 j hj h
             ·obtain rfl : j = k := by omega
              rw [hx]; unfold mayB; dsimp only; rw [hg2]; rfl
            have hs := smB_s (l := l) hltx hx
            rw [hsm, Bool.false_and] at hs
            exact xR (k + 1) ⟨by omega, hn⟩ (by omega) (hl := ⟨rfl, rfl, (by rw [hs]; rfl), (congrArg some (by go_num)), trivial⟩)
        ·refine dO [9, 10, 11, 12, 13, 14, 15, 16, 17, 18, 19, 20] ?_
         refine s15 ?_
         obtain ⟨hg1, hg2⟩ | ⟨kq, hkq, hg1, hg2⟩ := look_fidx hdl xt xn
         ·refine kJ [(0, _), (3, _), (5, _), (6, _), (7, _)] ?_
          refine xD [0, 1, 2, 3, 4, 5, 6, 7, 8, 9, 10, 11, 12, 13, 14] [2, 6, 8, 12] ?_
          refine s4 ?_
          refine dP rfl (pIdxI (k) rfl rfl rfl) ?_
          refine s1 ?_
          refine dL rfl (vHold (v := .int .i64 xt) rfl rfl (fun h => h) hh2 hltx (by omega) (by rw [hx]; rfl)) ?_
          refine s3 ?_
          refine dP rfl (pIdxI (k) rfl rfl rfl) ?_
          refine s1 ?_
          refine dL rfl (vHold (v := .int .i64 xn) rfl rfl (fun h => h) hh2 hltx (by omega) (by rw [hx]; rfl)) ?_
          refine dCB rfl (fun w hw => (find_any xt xn l _ w (hrow0.up ET hw.bel)).mono (fun _ _ hh => by rw [hg1] at hh; exact hh)) ?_
          refine s5 ?_
          refine kJ [(0, _), (3, _), (5, _), (6, _), (7, _), (8, _)] ?_
          refine s6 ?_
          refine aDecT ?_ (by omega)
          refine s5 ?_
          refine kJ [] ?_
          refine s11 ?_
          refine JR_one rfl (rr_tmp rfl) ?_
          intro w' hw
          exact ⟨by rw [thr_no3 (x := (⟨xteam, xnn, xlate, xshort, xhow⟩ : Th)) (k := k) hltx (by unfold mayB; rw [hx]; dsimp only; rw [hg2]; show (false || _) = false; rw [Bool.false_or, ← Bool.not_eq_true, eqK_iff]; exact fun h => h66 h.1)], hw.bel⟩
         ·obtain ⟨⟨zt, zn, zx, zy⟩, hz⟩ : ∃ y, l[kq]'hkq = y := ⟨_, rfl⟩
          rw [hz] at hg2
          obtain ⟨bz, qz, rfl, hhz⟩ := hA (by intro e; subst e; simp at hkq)
          refine kJ [(0, _), (3, _), (5, _), (6, _), (7, _)] ?_
          refine xD [0, 1, 2, 3, 4, 5, 6, 7, 8, 9, 10, 11, 12, 13, 14] [2, 6, 8, 12] ?_
          refine s4 ?_
          refine dP rfl (pIdxI (k) rfl rfl rfl) ?_
          refine s1 ?_
          refine dL rfl (vHold (v := .int .i64 xt) rfl rfl (fun h => h) hh2 hltx (by omega) (by rw [hx]; rfl)) ?_
          refine s3 ?_
          refine dP rfl (pIdxI (k) rfl rfl rfl) ?_
          refine s1 ?_
          refine dL rfl (vHold (v := .int .i64 xn) rfl rfl (fun h => h) hh2 hltx (by omega) (by rw [hx]; rfl)) ?_
          refine dCB rfl (fun w hw => (find_any xt xn l _ w (hrow0.up ET hw.bel)).mono (fun _ _ hh => by rw [hg1] at hh; exact hh)) ?_
          refine s5 ?_
          refine kJ [(0, _), (3, _), (5, _), (6, _), (7, _), (8, _)] ?_
          refine s6 ?_
          refine aDecF ?_ (by omega)
          refine s6 ?_
          obtain hsm | hsm : smB l m k = true ∨ smB l m k = false := by cases smB l m k <;> simp
          all_goals rw [hsm]
          ·refine kJ [(0, _), (3, _), (5, _), (6, _), (8, _)] ?_
           refine xD [0, 1, 2, 3, 4, 5, 6, 7, 8, 9, 10, 11, 12, 13, 14, 15] [9, 11, 14] ?_
           refine s4 ?_
           refine dDecT ?_ (by omega)
           refine s4 ?_
           refine dP rfl (pIdxI (kq) rfl rfl rfl (by omega)) ?_
           refine dL rfl (vHoldA (cs := [.int .i64 zt, .int .i64 zn, .int .i64 zx, .int .i64 zy]) ET rfl rfl (fun h => h) hhz hkq (by rw [hz]; rfl)) ?_
           refine s3 ?_
           refine dP rfl (pIdxI (k) rfl rfl rfl) ?_
           refine dL rfl (vHoldA (cs := [.int .i64 xt, .int .i64 xn, .int .i64 xx, .int .i64 xy]) ET rfl rfl (fun h => h) hh2 hltx (by rw [hx]; rfl)) ?_
           refine dP rfl (pEqlT (⟨zt, zn, zx, zy⟩ : St) (⟨xt, xn, xx, xy⟩ : St) rfl rfl rfl) ?_
           refine dBool (fun h113 => ?_) (fun h113 => ?_)
           ·refine dO [16, 17] ?_
            refine s5 ?_
            refine kJ [(0, _), (3, _), (5, _), (6, _)] ?_
            refine s5 ?_
            have hn : ∀ j (hj : j < m.length), j < k + 1 → mayB l (⟨xteam, xnn, xlate, xshort, xhow⟩ : Th) (m[j]'hj) = true := fun j hj hjk => by
             rcases Nat.lt_or_ge j k with h | h
             ·exact hall0 j hj h
             ·obtain rfl : j = k := by omega
              rw [hx]; unfold mayB; dsimp only; rw [hg2]; rfl
            have hs := smB_s (l := l) hltx hx
            have hin : (⟨xt, xn, xx, xy⟩ : St) ∈ l := by rw [← (eqS_iff _ _).1 h113, ← hz]; exact List.getElem_mem _
            rw [hsm, decide_eq_true hin] at hs
            exact xR (k + 1) ⟨by omega, hn⟩ (by omega) (hl := ⟨rfl, rfl, (by rw [hs]; rfl), (congrArg some (by go_num)), trivial⟩)
           ·refine dO [16, 17] ?_
            refine s5 ?_
            refine kJ [(0, _), (3, _), (5, _), (6, _)] ?_
            refine s5 ?_
            have hn : ∀ j (hj : j < m.length), j < k + 1 → mayB l (⟨xteam, xnn, xlate, xshort, xhow⟩ : Th) (m[j]'hj) = true := fun j hj hjk => by
             rcases Nat.lt_or_ge j k with h | h
             ·exact hall0 j hj h
             ·obtain rfl : j = k := by omega
              rw [hx]; unfold mayB; dsimp only; rw [hg2]; rfl
            have hs := smB_s (l := l) hltx hx
            have hin : ¬ (⟨xt, xn, xx, xy⟩ : St) ∈ l := fun h => by
             have h1 := (in_look hdl).1 h
             dsimp only at h1
             rw [hg2] at h1
             rw [(eqS_iff _ _).2 (Option.some.inj h1)] at h113; cases h113
            rw [hsm, decide_eq_false hin] at hs
            exact xR (k + 1) ⟨by omega, hn⟩ (by omega) (hl := ⟨rfl, rfl, (by rw [hs]; rfl), (congrArg some (by go_num)), trivial⟩)
          ·refine kJ [(0, _), (3, _), (5, _), (6, _), (8, _)] ?_
           refine xD [0, 1, 2, 3, 4, 5, 6, 7, 8, 9, 10, 11, 12, 13, 14, 15, 16, 17] [9, 11, 14] ?_
           refine s21 ?_
           refine kJ [(0, _), (3, _), (5, _), (6, _)] ?_
           refine s5 ?_
           have hn : ∀ j (hj : j < m.length), j < k + 1 → mayB l (⟨xteam, xnn, xlate, xshort, xhow⟩ : Th) (m[j]'hj) = true := fun j hj hjk => by
            rcases Nat.lt_or_ge j k with h | h
            ·exact hall0 j hj h
            ·obtain rfl : j = k := by omega
             rw [hx]; unfold mayB; dsimp only; rw [hg2]; rfl
           have hs := smB_s (l := l) hltx hx
           rw [hsm, Bool.false_and] at hs
           exact xR (k + 1) ⟨by omega, hn⟩ (by omega) (hl := ⟨rfl, rfl, (by rw [hs]; rfl), (congrArg some (by go_num)), trivial⟩)
       ·refine s9 ?_
        have hall : ∀ j (hj : j < m.length), mayB l (⟨xteam, xnn, xlate, xshort, xhow⟩ : Th) (m[j]'hj) = true := fun j hj => hall0 j hj (by omega)
        refine kJ [(3, _), (5, _)] ?_
        refine s3 ?_
        refine JL_bool (fun h116 => ?_) (fun h116 => ?_)
        ·refine s8 ?_
         refine JR_one rfl (rr_tmp rfl) ?_
         intro w' hw
         obtain rfl : k = m.length := by omega
         exact ⟨by rw [thr_yes (x := (⟨xteam, xnn, xlate, xshort, xhow⟩ : Th)) hA0 hf2 hall]; dsimp only; rw [h116, smB_all h10 h42]; rfl, hw.bel⟩
        ·refine s8 ?_
         refine JR_one rfl (rr_tmp rfl) ?_
         intro w' hw
         obtain rfl : k = m.length := by omega
         exact ⟨by rw [thr_yes (x := (⟨xteam, xnn, xlate, xshort, xhow⟩ : Th)) hA0 hf2 hall]; dsimp only; rw [h116]; rfl, hw.bel⟩
      ·refine s6 ?_
       refine kJ [] ?_
       refine s6 ?_
       refine JR_one rfl (rr_tmp rfl) ?_
       intro w' hw
       exact ⟨by rw [thr_no1 (by unfold thrA; rw [h42]; simp)], hw.bel⟩
    ·refine s21 ?_
     refine kJ [] ?_
     refine s6 ?_
     refine JR_one rfl (rr_tmp rfl) ?_
     intro w' hw
     exact ⟨by rw [thr_no1 (by unfold thrA; rw [decide_eq_false h27]; simp)], hw.bel⟩
   ·refine s27 ?_
    refine kJ [] ?_
    refine s6 ?_
    refine JR_one rfl (rr_tmp rfl) ?_
    intro w' hw
    exact ⟨by rw [thr_no1 (by unfold thrA; rw [decide_eq_false h21]; simp)], hw.bel⟩
  ·refine s33 ?_
   refine kJ [] ?_
   refine s6 ?_
   refine JR_one rfl (rr_tmp rfl) ?_
   intro w' hw
   exact ⟨by rw [thr_no1 (by unfold thrA; rw [decide_eq_false h15]; simp)], hw.bel⟩
 ·refine s38 ?_
  refine kJ [] ?_
  refine s6 ?_
  refine JR_one rfl (rr_tmp rfl) ?_
  intro w' hw
  exact ⟨by rw [thr_no1 (by unfold thrA; rw [h10]; simp)], hw.bel⟩
end Go.Proofs.YtomcpgdpjpjioaaGreat
/- Layer 7: rule, distinct (document). -/
namespace Go.Proofs.YtomcpgdpjpjioaaGreat
open Go Go.RowKit Go.Proofs
attribute [local irreducible] J JQ JL JA JD

theorem rulF_if (x : Th) (rm mv sf : Bool) : rulF x rm mv sf = if x.late = true then 1 else if x.how = 1 then 2 else if x.short = true then 3 else if x.how = 3 then 4 else if x.how = 2 then 5 else if x.how = 4 then 6 else if (rm && !sf) = true then 7 else if rm = true then 8 else if mv = true then 9 else 0 := by
 simp [rulF, rulG, askB]
theorem rem_y {c : Cd} {n team : Int} {m l : List St} {k : Nat} {x : St} (h : k < l.length) (hx : l[k]'h = x) (h2 : lookT m x.t x.n = none) (h3 : kpB c n team x = true) : remB c n team m (l.take (k + 1)) = true := by
 rw [remB_step c n team m h, hx, h2, h3]; simp
theorem rem_n {c : Cd} {n team : Int} {m l : List St} {k : Nat} {x : St} (h : k < l.length) (hx : l[k]'h = x) (h2 : (lookT m x.t x.n).isSome = true ∨ kpB c n team x = false) : remB c n team m (l.take (k + 1)) = remB c n team m (l.take k) := by
 rw [remB_step c n team m h, hx]
 rcases h2 with h2 | h2
 ·rw [h2]; simp
 ·rw [h2]; simp
theorem mov_y {c : Cd} {n team : Int} {m l : List St} {k : Nat} {x y : St} (h : k < l.length) (hx : l[k]'h = x) (h2 : lookT m x.t x.n = some y) (h3 : fxB c n team x = true) (h4 : cen y = false) : movB c n team m (l.take (k + 1)) = true := by
 rw [movB_step c n team m h, hx, h2, h3]; simp [h4]
theorem mov_n {c : Cd} {n team : Int} {m l : List St} {k : Nat} {x : St} (h : k < l.length) (hx : l[k]'h = x) (h2 : lookT m x.t x.n = none ∨ fxB c n team x = false ∨ ∃ y, lookT m x.t x.n = some y ∧ cen y = true) : movB c n team m (l.take (k + 1)) = movB c n team m (l.take k) := by
 rw [movB_step c n team m h, hx]
 rcases h2 with h2 | h2 | ⟨y, h2, h3⟩
 ·rw [h2]; simp
 ·rw [h2]; simp
 ·rw [h2]; simp [h3]
theorem dd_any (y : List St × Bool) (L : List Oc) : (ddO L).any (fun p => decide (oP p = y)) = L.any (fun p => decide (oP p = y)) := by
 have H : ∀ (L r : List Oc), (L.foldl (fun r o => if r.any (fun p => decide (oP p = oP o)) = true then r else r ++ [o]) r).any (fun p => decide (oP p = y)) = (r.any (fun p => decide (oP p = y)) || L.any (fun p => decide (oP p = y))) := by
  intro L
  induction L with
  | nil => intro r; simp
  | cons o L ih =>
   intro r
   rw [List.foldl_cons, ih, List.any_cons]
   by_cases e : oP o = y
   ·by_cases h : r.any (fun p => decide (oP p = oP o)) = true
    ·rw [if_pos h]; rw [e] at h; rw [h]; simp
    ·rw [if_neg h, List.any_append]; simp [e]
   ·have e2 : decide (oP o = y) = false := decide_eq_false e
    by_cases h : r.any (fun p => decide (oP p = oP o)) = true
    ·rw [if_pos h, e2, Bool.false_or]
    ·rw [if_neg h, List.any_append, e2]; simp [e]
 have := H L []
 simpa [ddO] using this
set_option maxRecDepth 100000 in
set_option maxHeartbeats 4000000 in
theorem refrule (c : Cd) (n : Int) (l m : List St) (x : Th) (v : Value) (A2 : Option Addr) (cap2 : Nat) (w : World) (hrow : Arr 4 eT w v l) (hrow2 : Arr 4 eT w (.slice A2 m.length cap2) m) (hdm : dis m) : Calls Tryz.prog 79 #[Cdv c, .int .i64 n, v, Thv x A2 m.length cap2] w (Back (.int .i64 (ruleF c n l m x)) w) := by
 obtain ⟨kf, kt, ks, ke, kp⟩ := c
 obtain ⟨xteam, xnn, xlate, xshort, xhow⟩ := x
 have hrow0 := hrow
 obtain ⟨A, cap, rfl, -, ⟨hl, -⟩, hA⟩ := hrow
 have hrow20 := hrow2
 obtain ⟨A2', cap2', e2, -, ⟨hl2, -⟩, hA2⟩ := hrow2
 obtain ⟨rfl, -, rfl⟩ : A2 = A2' ∧ True ∧ cap2 = cap2' := by injection e2 with e1 _ e3; exact ⟨e1, trivial, e3⟩
 unfold ruleF
 dsimp only [Thv, Cdv]
 refine J_enter (fun _ => False) (vs := [.agg #[.int .i64 kf, .int .i64 kt, .int .i64 ks, .int .i64 ke, .bool kp], .int .i64 n, .slice A l.length cap, .agg #[.int .i64 xteam, .int .i64 xnn, .bool xlate, .bool xshort, .int .i64 xhow, .slice A2 m.length cap2]]) (k := 88) (l := [(0, .agg #[.int .i64 kf, .int .i64 kt, .int .i64 ks, .int .i64 ke, .bool kp]), (1, .int .i64 n), (2, .slice A l.length cap), (3, .agg #[.int .i64 xteam, .int .i64 xnn, .bool xlate, .bool xshort, .int .i64 xhow, .slice A2 m.length cap2])]) Tryz.func79 rfl rfl Tryz.ntmps79 rfl rfl (Wd.start _) ?_
 refine s2 ?_
 refine aW (oX [_, _, _, _, _]) (fun b4 hb4 => ?_)
 refine aW (oX [_, _, _, _, _, _]) (fun b7 hb7 => ?_)
 refine s8 ?_
 refine JL_bool (fun h14 => ?_) (fun h14 => ?_)
 ·refine s4 ?_
  refine kJ [] ?_
  refine s6 ?_
  refine JR_one rfl (rr_tmp rfl) ?_
  intro w' hw
  exact ⟨by rw [rulF_if]; dsimp only; rw [if_pos h14], hw.bel⟩
 ·refine s7 ?_
  refine kJ [(1, _), (2, _), (4, _), (7, _)] ?_
  refine s4 ?_
  refine JL_dec (fun h17 => ?_) (fun h17 => ?_)
  ·refine s4 ?_
   refine kJ [] ?_
   refine s6 ?_
   refine JR_one rfl (rr_tmp rfl) ?_
   intro w' hw
   exact ⟨by rw [rulF_if]; dsimp only; rw [if_neg (show ¬ xlate = true by rw [h14]; decide), if_pos h17], hw.bel⟩
  ·refine s10 ?_
   refine JL_bool (fun h19 => ?_) (fun h19 => ?_)
   ·refine s4 ?_
    refine kJ [] ?_
    refine s6 ?_
    refine JR_one rfl (rr_tmp rfl) ?_
    intro w' hw
    exact ⟨by rw [rulF_if]; dsimp only; rw [if_neg (show ¬ xlate = true by rw [h14]; decide), if_neg h17, if_pos h19], hw.bel⟩
   ·refine s7 ?_
    refine kJ [(1, _), (2, _), (4, _), (7, _)] ?_
    refine s4 ?_
    refine JL_dec (fun h22 => ?_) (fun h22 => ?_)
    ·refine s4 ?_
     refine kJ [] ?_
     refine s6 ?_
     refine JR_one rfl (rr_tmp rfl) ?_
     intro w' hw
     exact ⟨by rw [rulF_if]; dsimp only; rw [if_neg (show ¬ xlate = true by rw [h14]; decide), if_neg h17, if_neg (show ¬ xshort = true by rw [h19]; decide), if_pos h22], hw.bel⟩
    ·refine s11 ?_
     refine JL_dec (fun h25 => ?_) (fun h25 => ?_)
     ·refine s4 ?_
      refine kJ [] ?_
      refine s6 ?_
      refine JR_one rfl (rr_tmp rfl) ?_
      intro w' hw
      exact ⟨by rw [rulF_if]; dsimp only; rw [if_neg (show ¬ xlate = true by rw [h14]; decide), if_neg h17, if_neg (show ¬ xshort = true by rw [h19]; decide), if_neg h22, if_pos h25], hw.bel⟩
     ·refine s7 ?_
      refine kJ [(1, _), (2, _), (4, _), (7, _)] ?_
      refine s4 ?_
      refine JL_dec (fun h28 => ?_) (fun h28 => ?_)
      ·refine s4 ?_
       refine kJ [] ?_
       refine s6 ?_
       refine JR_one rfl (rr_tmp rfl) ?_
       intro w' hw
       exact ⟨by rw [rulF_if]; dsimp only; rw [if_neg (show ¬ xlate = true by rw [h14]; decide), if_neg h17, if_neg (show ¬ xshort = true by rw [h19]; decide), if_neg h22, if_neg h25, if_pos h28], hw.bel⟩
      ·refine s18 ?_
       refine xL (T := Nat) (fun k => k ≤ l.length) (fun k => [(1, .int .i64 n), (2, .slice A l.length cap), (4, .pointer (some ⟨b4, 0, none⟩)), (7, .pointer (some ⟨b7, 0, none⟩)), (9, .bool (remB (⟨kf, kt, ks, ke, kp⟩ : Cd) n xteam m (l.take k))), (10, .bool (movB (⟨kf, kt, ks, ke, kp⟩ : Cd) n xteam m (l.take k))), (11, .int .i64 (k : Nat))]) (fun k => [cellB b4 [.int .i64 kf, .int .i64 kt, .int .i64 ks, .int .i64 ke, .bool kp] 23, cellB b7 [.int .i64 xteam, .int .i64 xnn, .bool xlate, .bool xshort, .int .i64 xhow, .slice A2 m.length cap2] 38]) (fun k => l.length - k) 0 (Nat.zero_le _) ?_
       rintro k hk
       refine s7 ?_
       refine JL_dec (fun h32 => ?_) (fun h32 => ?_)
       ·refine s8 ?_
        have hltx : k < l.length := by omega
        obtain ⟨bx, qx, rfl, hh⟩ := hA (by intro e; subst e; simp at hltx)
        obtain ⟨⟨xt, xn, xx, xy⟩, hx⟩ : ∃ y, l[k]'hltx = y := ⟨_, rfl⟩
        have hmx : (⟨xt, xn, xx, xy⟩ : St) ∈ l := by rw [← hx]; exact List.getElem_mem _
        obtain ⟨hg1, hg2⟩ | ⟨kq, hkq, hg1, hg2⟩ := look_fidx hdm xt xn
        ·refine kJ [(1, _), (2, _), (4, _), (7, _), (9, _), (10, _), (11, _)] ?_
         refine xD [0, 1, 2, 3, 4, 5, 6, 7, 8, 9, 10, 11, 12, 13] [1, 6, 11] ?_
         refine s4 ?_
         refine dP rfl (pIdxI (k) rfl rfl rfl) ?_
         refine s1 ?_
         refine dL rfl (vHold (v := .int .i64 xt) rfl rfl (fun h => h) hh hltx (by omega) (by rw [hx]; rfl)) ?_
         refine s2 ?_
         refine dP rfl (pIdxI (k) rfl rfl rfl) ?_
         refine s1 ?_
         refine dL rfl (vHold (v := .int .i64 xn) rfl rfl (fun h => h) hh hltx (by omega) (by rw [hx]; rfl)) ?_
         refine dCB rfl (fun w hw => (find_any xt xn m _ w (hrow20.up ET hw.bel)).mono (fun _ _ hh => by rw [hg1] at hh; exact hh)) ?_
         refine s5 ?_
         refine kJ [(1, _), (2, _), (4, _), (7, _), (9, _), (10, _), (11, _), (12, _)] ?_
         refine xD [0, 1, 2, 3, 4, 5, 6, 7, 8, 9, 10, 11] [3, 6, 10] ?_
         refine s2 ?_
         refine dDecT ?_ (by omega)
         refine s7 ?_
         refine dP rfl (pIdxI (k) rfl rfl rfl) ?_
         refine dL rfl (vHoldA (cs := [.int .i64 xt, .int .i64 xn, .int .i64 xx, .int .i64 xy]) ET rfl rfl (fun h => h) hh hltx (by rw [hx]; rfl)) ?_
         refine dCB rfl (fun w hw => refkept (⟨kf, kt, ks, ke, kp⟩ : Cd) n xteam (⟨xt, xn, xx, xy⟩ : St) w) ?_
         refine dBool (fun h59 => ?_) (fun h59 => ?_)
         ·refine dO [12] ?_
          refine s4 ?_
          refine kJ [(1, _), (2, _), (4, _), (7, _), (10, _), (11, _), (12, _)] ?_
          refine s5 ?_
          refine xD [0, 1, 2, 3, 4, 5, 6, 7, 8, 9, 10, 11, 12, 13, 14, 15, 16, 17, 18, 19, 20, 21] [3, 6, 10, 15, 18] ?_
          refine s2 ?_
          refine dDecF ?_ (by omega)
          refine s26 ?_
          refine kJ [(1, _), (2, _), (4, _), (7, _), (9, _), (10, _), (11, _)] ?_
          refine s5 ?_
          have hs1 := rem_y hltx hx hg2 h59
          have hs2 := mov_n (m := m) (n := n) (team := xteam) (c := (⟨kf, kt, ks, ke, kp⟩ : Cd)) hltx hx (.inl hg2)
          exact xR (k + 1) (by omega) (by omega) (hl := ⟨rfl, rfl, rfl, rfl, (by rw [hs1]; rfl), (by rw [hs2]; rfl), (congrArg some (by go_num)), trivial⟩)
         ·refine dO [12] ?_
          refine s7 ?_
          refine kJ [(1, _), (2, _), (4, _), (7, _), (9, _), (10, _), (11, _), (12, _)] ?_
          refine xD [0, 1, 2, 3, 4, 5, 6, 7, 8, 9, 10, 11, 12, 13, 14, 15, 16, 17, 18, 19, 20, 21] [3, 6, 10, 15, 18] ?_
          refine s2 ?_
          refine dDecF ?_ (by omega)
          refine s26 ?_
          refine kJ [(1, _), (2, _), (4, _), (7, _), (9, _), (10, _), (11, _)] ?_
          refine s5 ?_
          have hs1 := rem_n (m := m) (n := n) (team := xteam) (c := (⟨kf, kt, ks, ke, kp⟩ : Cd)) hltx hx (.inr h59)
          have hs2 := mov_n (m := m) (n := n) (team := xteam) (c := (⟨kf, kt, ks, ke, kp⟩ : Cd)) hltx hx (.inl hg2)
          exact xR (k + 1) (by omega) (by omega) (hl := ⟨rfl, rfl, rfl, rfl, (by rw [hs1]; rfl), (by rw [hs2]; rfl), (congrArg some (by go_num)), trivial⟩)
        ·obtain ⟨⟨zt, zn, zx, zy⟩, hz⟩ : ∃ y, m[kq]'hkq = y := ⟨_, rfl⟩
         rw [hz] at hg2
         obtain ⟨bz, qz, rfl, hhz⟩ := hA2 (by intro e; subst e; simp at hkq)
         refine kJ [(1, _), (2, _), (4, _), (7, _), (9, _), (10, _), (11, _)] ?_
         refine xD [0, 1, 2, 3, 4, 5, 6, 7, 8, 9, 10, 11, 12, 13] [1, 6, 11] ?_
         refine s4 ?_
         refine dP rfl (pIdxI (k) rfl rfl rfl) ?_
         refine s1 ?_
         refine dL rfl (vHold (v := .int .i64 xt) rfl rfl (fun h => h) hh hltx (by omega) (by rw [hx]; rfl)) ?_
         refine s2 ?_
         refine dP rfl (pIdxI (k) rfl rfl rfl) ?_
         refine s1 ?_
         refine dL rfl (vHold (v := .int .i64 xn) rfl rfl (fun h => h) hh hltx (by omega) (by rw [hx]; rfl)) ?_
         refine dCB rfl (fun w hw => (find_any xt xn m _ w (hrow20.up ET hw.bel)).mono (fun _ _ hh => by rw [hg1] at hh; exact hh)) ?_
         refine s5 ?_
         refine kJ [(1, _), (2, _), (4, _), (7, _), (9, _), (10, _), (11, _), (12, _)] ?_
         refine xD [0, 1, 2, 3, 4, 5, 6, 7, 8, 9, 10, 11, 12] [3, 6, 10] ?_
         refine s2 ?_
         refine dDecF ?_ (by omega)
         refine s17 ?_
         refine kJ [(1, _), (2, _), (4, _), (7, _), (9, _), (10, _), (11, _), (12, _)] ?_
         refine xD [0, 1, 2, 3, 4, 5, 6, 7, 8, 9, 10, 11] [3, 6, 10, 15, 18] ?_
         refine s2 ?_
         refine dDecT ?_ (by omega)
         refine s7 ?_
         refine dP rfl (pIdxI (k) rfl rfl rfl) ?_
         refine dL rfl (vHoldA (cs := [.int .i64 xt, .int .i64 xn, .int .i64 xx, .int .i64 xy]) ET rfl rfl (fun h => h) hh hltx (by rw [hx]; rfl)) ?_
         refine dCB rfl (fun w hw => reffixed (⟨kf, kt, ks, ke, kp⟩ : Cd) n xteam (⟨xt, xn, xx, xy⟩ : St) w) ?_
         refine dBool (fun h72 => ?_) (fun h72 => ?_)
         ·refine dO [12, 13, 14, 15, 16, 17, 18, 19] ?_
          refine s5 ?_
          refine dP rfl (pIdxI (kq) rfl rfl rfl (by omega)) ?_
          refine dL rfl (vHoldA (cs := [.int .i64 zt, .int .i64 zn, .int .i64 zx, .int .i64 zy]) ET rfl rfl (fun h => h) hhz hkq (by rw [hz]; rfl)) ?_
          refine dCB rfl (fun w hw => refcentre ⟨zt, zn, zx, zy⟩ w) ?_
          refine dBool (fun h80 => ?_) (fun h80 => ?_)
          ·refine dO [20, 21] ?_
           refine s8 ?_
           refine kJ [(1, _), (2, _), (4, _), (7, _), (9, _), (10, _), (11, _)] ?_
           refine s5 ?_
           have hs1 := rem_n (m := m) (n := n) (team := xteam) (c := (⟨kf, kt, ks, ke, kp⟩ : Cd)) hltx hx (.inl (by dsimp only; rw [hg2]; rfl))
           have hs2 := mov_n (m := m) (n := n) (team := xteam) (c := (⟨kf, kt, ks, ke, kp⟩ : Cd)) hltx hx (.inr (.inr ⟨_, hg2, h80⟩))
           exact xR (k + 1) (by omega) (by omega) (hl := ⟨rfl, rfl, rfl, rfl, (by rw [hs1]; rfl), (by rw [hs2]; rfl), (congrArg some (by go_num)), trivial⟩)
          ·refine dO [20, 21] ?_
           refine s5 ?_
           refine kJ [(1, _), (2, _), (4, _), (7, _), (9, _), (11, _)] ?_
           refine s10 ?_
           have hs1 := rem_n (m := m) (n := n) (team := xteam) (c := (⟨kf, kt, ks, ke, kp⟩ : Cd)) hltx hx (.inl (by dsimp only; rw [hg2]; rfl))
           have hs2 := mov_y hltx hx hg2 h72 h80
           exact xR (k + 1) (by omega) (by omega) (hl := ⟨rfl, rfl, rfl, rfl, (by rw [hs1]; rfl), (by rw [hs2]; rfl), (congrArg some (by go_num)), trivial⟩)
         ·refine dO [12, 13, 14, 15, 16, 17, 18, 19, 20, 21] ?_
          refine s16 ?_
          refine kJ [(1, _), (2, _), (4, _), (7, _), (9, _), (10, _), (11, _)] ?_
          refine s5 ?_
          have hs1 := rem_n (m := m) (n := n) (team := xteam) (c := (⟨kf, kt, ks, ke, kp⟩ : Cd)) hltx hx (.inl (by dsimp only; rw [hg2]; rfl))
          have hs2 := mov_n (m := m) hltx hx (.inr (.inl h72))
          exact xR (k + 1) (by omega) (by omega) (hl := ⟨rfl, rfl, rfl, rfl, (by rw [hs1]; rfl), (by rw [hs2]; rfl), (congrArg some (by go_num)), trivial⟩)
       ·refine s10 ?_
        have hk2 : k = l.length := by omega
        subst hk2
        rw [List.take_length] at *
        obtain hrm | hrm : remB (⟨kf, kt, ks, ke, kp⟩ : Cd) n xteam m l = true ∨ remB (⟨kf, kt, ks, ke, kp⟩ : Cd) n xteam m l = false := by cases remB (⟨kf, kt, ks, ke, kp⟩ : Cd) n xteam m l <;> simp
        all_goals rw [hrm]
        ·refine kJ [(1, _), (4, _), (9, _), (10, _)] ?_
         refine s7 ?_
         refine JL_dec (fun h88 => ?_) (fun h88 => ?_)
         ·refine s5 ?_
          refine kJ [] ?_
          refine s6 ?_
          refine JR_one rfl (rr_tmp rfl) ?_
          intro w' hw
          exact ⟨by rw [rulF_if]; dsimp only; rw [if_neg (show ¬ xlate = true by rw [h14]; decide), if_neg h17, if_neg (show ¬ xshort = true by rw [h19]; decide), if_neg h22, if_neg h25, if_neg h28, decide_eq_false (show ¬ n < ks by omega), if_pos (show (true && !false) = true from rfl)], hw.bel⟩
         ·refine s8 ?_
          refine kJ [(9, _), (10, _)] ?_
          refine s12 ?_
          refine JR_one rfl (rr_tmp rfl) ?_
          intro w' hw
          exact ⟨by rw [rulF_if]; dsimp only; rw [if_neg (show ¬ xlate = true by rw [h14]; decide), if_neg h17, if_neg (show ¬ xshort = true by rw [h19]; decide), if_neg h22, if_neg h25, if_neg h28, decide_eq_true (show n < ks by omega), if_neg (show ¬ (true && !true) = true by decide), if_pos rfl], hw.bel⟩
        ·refine kJ [(1, _), (4, _), (9, _), (10, _)] ?_
         refine s15 ?_
         refine kJ [(9, _), (10, _)] ?_
         refine s9 ?_
         obtain hmv | hmv : movB (⟨kf, kt, ks, ke, kp⟩ : Cd) n xteam m l = true ∨ movB (⟨kf, kt, ks, ke, kp⟩ : Cd) n xteam m l = false := by cases movB (⟨kf, kt, ks, ke, kp⟩ : Cd) n xteam m l <;> simp
         all_goals rw [hmv]
         ·refine s6 ?_
          refine kJ [] ?_
          refine s6 ?_
          refine JR_one rfl (rr_tmp rfl) ?_
          intro w' hw
          exact ⟨by rw [rulF_if]; dsimp only; rw [if_neg (show ¬ xlate = true by rw [h14]; decide), if_neg h17, if_neg (show ¬ xshort = true by rw [h19]; decide), if_neg h22, if_neg h25, if_neg h28, if_neg (show ¬ (false && _) = true by simp), if_neg (show ¬ false = true by decide), if_pos rfl], hw.bel⟩
         ·refine s8 ?_
          refine kJ [] ?_
          refine s5 ?_
          refine JR_one rfl (rr_tmp rfl) ?_
          intro w' hw
          exact ⟨by rw [rulF_if]; dsimp only; rw [if_neg (show ¬ xlate = true by rw [h14]; decide), if_neg h17, if_neg (show ¬ xshort = true by rw [h19]; decide), if_neg h22, if_neg h25, if_neg h28, if_neg (show ¬ (false && _) = true by simp), if_neg (show ¬ false = true by decide), if_neg (show ¬ false = true by decide)], hw.bel⟩
set_option maxRecDepth 100000 in
set_option maxHeartbeats 4000000 in
theorem refdistinct (l : List Oc) (v : Value) (w : World) (hrow : Arr 2 eO w v l) (ho : ∀ p ∈ l, OcW w p) (hl9 : l.length ≤ 1000) : Calls Tryz.prog 80 #[v] w (RetS 82 2 eO (ddO l) w) := by
 have hrow0 := hrow
 obtain ⟨A, cap, rfl, -, ⟨hl, -⟩, hA⟩ := hrow
 refine J_enter (fun _ => False) (vs := [.slice A l.length cap]) (k := 35) (l := [(0, .slice A l.length cap)]) Tryz.func80 rfl rfl Tryz.ntmps80 rfl rfl (Wd.start _) ?_
 refine s12 ?_
 refine J_own0 82 2 ?_
 refine s5 ?_
 refine xL (T := Nat × Option Addr × Nat) (fun q => q.1 ≤ l.length) (fun q => [(0, .slice A l.length cap), (3, .slice q.2.1 (ddO (l.take q.1)).length q.2.2), (4, .int .i64 (q.1 : Nat))]) (fun q => [ownB 82 2 q.2.1 (ddO (l.take q.1)).length q.2.2 ((ddO (l.take q.1)).flatMap eO)]) (fun q => l.length - q.1) (0, none, 0) (Nat.zero_le _) ?_
 rintro ⟨k, vA, vc⟩ hk
 dsimp only at hk ⊢
 have hdl := ddO_len (l.take k)
 rw [List.length_take] at hdl
 refine s7 ?_
 refine JL_dec (fun h10 => ?_) (fun h10 => ?_)
 ·refine s8 ?_
  have hltx : k < l.length := by omega
  obtain ⟨bkx, qx, rfl, hh⟩ := hA (by intro e; rw [e] at hltx; simp at hltx)
  obtain ⟨⟨⟨xA, xn, xk, xl⟩, xg⟩, hx⟩ : ∃ y, l[k]'hltx = y := ⟨_, rfl⟩
  have hmx : (⟨⟨xA, xn, xk, xl⟩, xg⟩ : Oc) ∈ l := by rw [← hx]; exact List.getElem_mem _
  refine kJ [(0, _), (3, _), (4, _)] ?_
  refine s11 ?_
  refine xL (T := Nat) (fun j => j ≤ k) (fun j => [(0, .slice (some ⟨bkx, qx, none⟩) l.length cap), (3, .slice vA (ddO (l.take k)).length vc), (4, .int .i64 (k : Nat)), (5, .bool (!((l.take j).any (fun p => decide (oP p = oP (⟨⟨xA, xn, xk, xl⟩, xg⟩ : Oc)))))), (6, .int .i64 (j : Nat))]) (fun j => [ownB 82 2 vA (ddO (l.take k)).length vc ((ddO (l.take k)).flatMap eO)]) (fun j => k - j) 0 (Nat.zero_le _) ?_
  rintro j hj
  refine s6 ?_
  refine JL_dec (fun h15 => ?_) (fun h15 => ?_)
  ·refine s8 ?_
   have hlty : j < l.length := by omega
   obtain ⟨⟨⟨yA, yn, yk, yl⟩, yg⟩, hy⟩ : ∃ y, l[j]'hlty = y := ⟨_, rfl⟩
   have hmy : (⟨⟨yA, yn, yk, yl⟩, yg⟩ : Oc) ∈ l := by rw [← hy]; exact List.getElem_mem _
   refine xD [0, 1, 2, 3, 4, 5, 6, 7, 8] [3, 7] ?_
   refine s2 ?_
   refine dP rfl (pIdxI (j) rfl rfl rfl) ?_
   refine dL rfl (vHoldA (cs := [.slice yA yn yk, .bool yg]) EO rfl rfl (fun h => h) hh hlty (by rw [hy]; rfl)) ?_
   refine s2 ?_
   refine dP rfl (pIdxI (k) rfl rfl rfl) ?_
   refine dL rfl (vHoldA (cs := [.slice xA xn xk, .bool xg]) EO rfl rfl (fun h => h) hh hltx (by rw [hx]; rfl)) ?_
   refine dCB rfl (fun w hw => Alike_any (⟨⟨yA, yn, yk, yl⟩, yg⟩ : Oc) (⟨⟨xA, xn, xk, xl⟩, xg⟩ : Oc) w ((ho _ hmy).up hw.bel) ((ho _ hmx).up hw.bel)) ?_
   refine dDec (fun h26 => ?_) (fun h26 => ?_)
   ·refine dO [] ?_
    refine s3 ?_
    refine kJ [(0, _), (3, _), (4, _), (6, _)] ?_
    refine s10 ?_
    have hs : (l.take (j + 1)).any (fun p => decide (oP p = oP (⟨⟨xA, xn, xk, xl⟩, xg⟩ : Oc))) = ((l.take j).any (fun p => decide (oP p = oP (⟨⟨xA, xn, xk, xl⟩, xg⟩ : Oc))) || decide (oP (⟨⟨yA, yn, yk, yl⟩, yg⟩ : Oc) = oP (⟨⟨xA, xn, xk, xl⟩, xg⟩ : Oc))) := by rw [List.take_succ_eq_append_getElem hlty, hy, List.any_append]; simp
    rw [decide_eq_true h26, Bool.or_true] at hs
    exact xR (j + 1) (by omega) (by omega) (hl := ⟨rfl, rfl, rfl, (by rw [hs]; rfl), (congrArg some (by go_num)), trivial⟩)
   ·refine dO [] ?_
    refine s6 ?_
    refine kJ [(0, _), (3, _), (4, _), (5, _), (6, _)] ?_
    refine s5 ?_
    have hs : (l.take (j + 1)).any (fun p => decide (oP p = oP (⟨⟨xA, xn, xk, xl⟩, xg⟩ : Oc))) = ((l.take j).any (fun p => decide (oP p = oP (⟨⟨xA, xn, xk, xl⟩, xg⟩ : Oc))) || decide (oP (⟨⟨yA, yn, yk, yl⟩, yg⟩ : Oc) = oP (⟨⟨xA, xn, xk, xl⟩, xg⟩ : Oc))) := by rw [List.take_succ_eq_append_getElem hlty, hy, List.any_append]; simp
    rw [decide_eq_false h26, Bool.or_false] at hs
    exact xR (j + 1) (by omega) (by omega) (hl := ⟨rfl, rfl, rfl, (by rw [hs]; rfl), (congrArg some (by go_num)), trivial⟩)
  ·refine s9 ?_
   obtain rfl : k = j := by omega
   obtain han | han : (l.take k).any (fun p => decide (oP p = oP (⟨⟨xA, xn, xk, xl⟩, xg⟩ : Oc))) = true ∨ (l.take k).any (fun p => decide (oP p = oP (⟨⟨xA, xn, xk, xl⟩, xg⟩ : Oc))) = false := by cases (l.take k).any (fun p => decide (oP p = oP (⟨⟨xA, xn, xk, xl⟩, xg⟩ : Oc))) <;> simp
   all_goals rw [han]
   ·refine kJ [(0, _), (3, _), (4, _), (5, _)] ?_
    refine s13 ?_
    have hs := dd_s hltx hx
    rw [if_pos (by rw [dd_any]; exact han)] at hs
    exact xR (k + 1, vA, vc) (by dsimp only; omega) (by dsimp only; omega) (hl := ⟨rfl, (by dsimp only; rw [hs]; rfl), (congrArg some (by go_num)), trivial⟩) (hH := by (try dsimp only); rw [hs]; repeat constructor)
   ·refine kJ [(0, _), (3, _), (4, _), (5, _)] ?_
    refine s9 ?_
    refine aP (pIdxI (k) rfl rfl rfl) ?_
    refine aV (vHoldA (cs := [.slice xA xn xk, .bool xg]) EO rfl rfl (fun h => h) hh hltx (by rw [hx]; rfl)) ?_
    refine aW (ow_sliceC (vs := [_, _]) (ty := 82) rfl rfl (by rfl) rfl rfl (fun _ => by kernel_rfl)) (fun b33 hb33 => ?_)
    refine aS (oApp (sl := 45) EO ((⟨⟨xA, xn, xk, xl⟩, xg⟩ : Oc))) (fun A34 c34 => ?_)
    refine s4 ?_
    refine kJ [(0, _), (3, _), (4, _)] ?_
    refine s5 ?_
    have hs := dd_s hltx hx
    rw [if_neg (by rw [dd_any, han]; decide)] at hs
    exact xR (k + 1, A34, c34) (by dsimp only; omega) (by dsimp only; omega) (hl := ⟨rfl, (by dsimp only; rw [hs]; rfl), (congrArg some (by go_num)), trivial⟩) (hH := by (try dsimp only); rw [hs]; repeat constructor)
 ·refine s9 ?_
  refine kJ [(3, _)] ?_
  refine s6 ?_
  refine JR_one rfl (rr_tmp rfl) ?_
  intro w' hw
  obtain rfl : k = l.length := by omega
  rw [List.take_length] at *
  exact ⟨vA, vc, rfl, hw.pick (by repeat constructor)⟩
end Go.Proofs.YtomcpgdpjpjioaaGreat
