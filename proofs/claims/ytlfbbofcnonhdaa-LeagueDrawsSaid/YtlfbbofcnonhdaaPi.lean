/- LeagueDraws: the document. -/
import Derived.Test.YtlfbbofcnonhdaaBp
import Derived.Test.YtlfbbofcnonhdaaEb
namespace Go.Proofs.Ytlfbbofcnonhdaa
open Go Go.RowKit Go.Proofs

theorem chk_any {α : Type} {n : Nat} (hn : 0 < n) : ∀ (f g : Nat) (l : List α), l.length ≤ f → l.length ≤ g → chk n f l = chk n g l
  | 0, 0, _, _, _ => rfl
  | 0, g + 1, [], _, _ => rfl
  | f + 1, 0, [], _, _ => rfl
  | f + 1, g + 1, [], _, _ => rfl
  | f + 1, g + 1, x :: r, h1, h2 => by
    show (x :: r).take n :: chk n f ((x :: r).drop n) = (x :: r).take n :: chk n g ((x :: r).drop n)
    have hl : ((x :: r).drop n).length ≤ r.length := by rw [List.length_drop, List.length_cons]; omega
    rw [List.length_cons] at h1 h2
    rw [chk_any hn f g _ (by omega) (by omega)]
theorem chk_len {α : Type} (n : Nat) : ∀ (k : Nat) (l : List α), (chk n k l).length ≤ k
  | 0, _ => Nat.le_refl _
  | k + 1, [] => Nat.zero_le _
  | k + 1, x :: r => by
    have := chk_len n k ((x :: r).drop n)
    show (_ :: chk n k ((x :: r).drop n)).length ≤ k + 1
    rw [List.length_cons]; omega
/-- The games of a round, in draws. -/
def chI (n : Nat) (l : List (Int × Int)) : List (List (Int × Int)) := chk n l.length l
theorem chI_step {n : Nat} (hn : 0 < n) {l : List (Int × Int)} (h : 0 < l.length) : chI n l = l.take n :: chI n (l.drop n) := by
  cases l with
  | nil => simp at h
  | cons x r =>
    show (x :: r).take n :: chk n r.length ((x :: r).drop n) = _
    have hl : ((x :: r).drop n).length ≤ r.length := by rw [List.length_drop, List.length_cons]; omega
    unfold chI
    rw [chk_any hn r.length _ _ hl (Nat.le_refl _)]
def drI (T L r : Nat) : List (List (Int × Int)) := ((List.range r).flatMap fun r => chunks L (gmP T r)).map (·.map iP)
theorem drI_succ (T L r : Nat) : drI T L (r + 1) = drI T L r ++ chI L ((gmP T r).map iP) := by
  unfold drI chI chunks
  rw [List.range_succ, List.flatMap_append, List.map_append, List.length_map, chk_map]
  simp
theorem gmP_len9 {T : Nat} (hT : T ≤ 16) (r : Nat) : (gmP T r).length ≤ 9 := by
  have h1 := gm0_len T r
  have h2 := gm1_len T r ((cir T - 1) / 2)
  unfold gmP
  rw [List.length_append, h2]
  unfold cir
  omega
theorem drI_len {T : Nat} (hT : T ≤ 16) (L : Nat) : ∀ r, (drI T L r).length ≤ 9 * r
  | 0 => Nat.zero_le _
  | r + 1 => by
    have ih := drI_len hT L r
    have h1 := chk_len L ((gmP T r).map iP).length ((gmP T r).map iP)
    have h2 := gmP_len9 hT r
    rw [drI_succ, List.length_append]
    rw [List.length_map] at h1
    unfold chI
    rw [List.length_map]
    omega
theorem pairN (a b : Nat) (w : World) : Calls Try.prog 62 #[.int .i64 (a : Nat), .int .i64 (b : Nat)] w (Back (Pv (iP (pr a b)).1 (iP (pr a b)).2) w) := by
  have h := pair62 (a : Int) (b : Int) w
  have e1 : (iP (pr a b)).1 = min (a : Int) (b : Int) := by show ((min a b : Nat) : Int) = _; omega
  have e2 : (iP (pr a b)).2 = max (a : Int) (b : Int) := by show ((max a b : Nat) : Int) = _; omega
  rw [e1, e2]; exact h
theorem gm1I (T r k : Nat) : (gm0 T r ++ gm1 T r (k + 1)).map iP = (gm0 T r ++ gm1 T r k).map iP ++ [iP (pr ((r + (k + 1)) % cir T) ((r + cir T - (k + 1)) % cir T))] := by
  rw [gm1_succ, ← List.append_assoc, List.map_append]; rfl
section
open Go
variable {P : Program} {n : Nat} {B : Bs} {Q : Exit → Act → World → Prop} {H H1 : List It} {l' : Sl} {c' : Code} {w : World}
variable {α : Type} {k : Nat} {enc : α → List Value}
/-- A slice that is read alone, and its parts. -/
theorem Wd.parts {A : Option Addr} {c m : Nat} {l : List α} (h : Wd B H w) (rm : Rm (slsB k enc [⟨A, l.length, c, l⟩]) H H1) (hm : m ≤ l.length) :
    Wd B (slsB k enc [⟨A, m, c, l.take m⟩] :: slsB k enc [⟨if c = m then A else A.map (·.add (m * k)), l.length - m, c - m, l.drop m⟩] :: H) w := by
  have hA : Arr k enc w (.slice A l.length c) l := (h.ok _ rm.mem).1 ⟨A, l.length, c, l⟩ (by simp)
  have h1 : Wd B (slsB k enc [⟨if c = m then A else A.map (·.add (m * k)), l.length - m, c - m, l.drop m⟩] :: H) w := by
    refine h.addRo rm rfl rfl (fun p hp => ?_) (fun b hb => ?_)
    · rw [List.mem_singleton.1 hp]; exact hA.drop hm
    · obtain ⟨p, hp, hn, o, ho⟩ := hb
      rw [List.mem_singleton.1 hp] at hn ho
      dsimp only at hn ho
      have hne : l ≠ [] := by intro e; subst e; simp at hn
      obtain ⟨A', c', e, -, -, h4⟩ := hA
      injection e with e1
      subst e1
      obtain ⟨b0, o0, e2, -⟩ := h4 hne
      refine ⟨⟨A, l.length, c, l⟩, List.mem_singleton.2 rfl, hne, ?_⟩
      by_cases hc : c = m
      · rw [if_pos hc] at ho; exact ⟨o, ho⟩
      · rw [if_neg hc, e2] at ho
        injection ho with ho
        have hb2 : ((⟨b0, o0, none⟩ : Addr).add (m * k)).block = b0 := by unfold Addr.add; split <;> rfl
        have ho' : (⟨b0, o0, none⟩ : Addr).add (m * k) = ⟨b, o, none⟩ := ho
        rw [ho'] at hb2
        exact ⟨o0, by dsimp only; rw [e2]; exact congrArg (fun b => some (⟨b, o0, none⟩ : Addr)) hb2.symm⟩
  refine h1.addRo (Rm.there _ rm) rfl rfl (fun p hp => ?_) (fun b hb => ?_)
  · rw [List.mem_singleton.1 hp]; exact hA.takeC hm
  · obtain ⟨p, hp, hn, o, ho⟩ := hb
    rw [List.mem_singleton.1 hp] at hn ho
    exact ⟨⟨A, l.length, c, l⟩, List.mem_singleton.2 rfl, (by intro e; apply hn; dsimp only at e ⊢; rw [e]; exact List.take_nil), o, ho⟩
theorem J_parts {A : Option Addr} {c m : Nat} {l : List α} (rm : Rm (slsB k enc [⟨A, l.length, c, l⟩]) H H1) (hm : m ≤ l.length)
    (h : J P n B c' Q l' (slsB k enc [⟨A, m, c, l.take m⟩] :: slsB k enc [⟨if c = m then A else A.map (·.add (m * k)), l.length - m, c - m, l.drop m⟩] :: H)) : J P n B c' Q l' H := fun a w h1 h2 => h a w h1 (h2.parts rm hm)
end
set_option maxRecDepth 100000 in
set_option maxHeartbeats 4000000 in
theorem Draws23 (T L : Nat) (hT : 2 ≤ T ∧ T ≤ 16) (hL : 1 ≤ L ∧ L ≤ 8) (w : World) : Calls Try.prog 23 #[.int .i64 (T : Nat), .int .i64 (L : Nat)] w (RetDE 41 2 eP ((drP T L).map (·.map iP)) 0 w) := by
 refine J_enter (fun _ => False) (vs := [.int .i64 (T : Nat), .int .i64 (L : Nat)]) (k := 80) (l := [(0, .int .i64 (T : Nat)), (1, .int .i64 (L : Nat))]) Try.func23 rfl rfl Try.ntmps23 rfl rfl (Wd.start _) ?_
 refine J_seq ?_
 refine J_reg ?_
 refine JN rfl rfl rfl rfl rfl ?_
 refine JN rfl rfl rfl rfl rfl ?_
 refine JL_nil ?_
 refine JQ_then_n ?_
 refine J_seq ?_
 refine J_seq ?_
 refine J_reg ?_
 refine JM rfl rfl rfl rfl rfl ?_
 refine JL_op (wn0 rfl) (ow_callP (ec_fn rfl rfl cf_52) rfl rfl (fun w hw => in52 (T : Nat) 2 16 w)) (fun _ _ => ?_)
 refine JL_boolT (decide_eq_true (by omega)) ?_
 refine JL_val rfl (wn0 rfl) (RP.rv (rp1 rfl (fun ρ hx w => ex_not rfl hx))) rfl ?_
 refine JM rfl rfl rfl rfl rfl ?_
 refine JL_val rfl (wn_g rfl rfl rfl rfl) (RP.rv (rp_move rfl rfl)) rfl ?_
 refine JL_op (wn_g rfl rfl rfl rfl) (ow_callP (ec_fn rfl rfl cf_52) rfl rfl (fun w hw => in52 (L : Nat) 1 8 w)) (fun _ _ => ?_)
 refine JL_boolT (decide_eq_true (by omega)) ?_
 refine JL_val rfl (wn_g rfl rfl rfl rfl) (RP.rv (rp1 rfl (fun ρ hx w => ex_not rfl hx))) rfl ?_
 refine JL_val rfl (wn0 rfl) (RP.rv (rp_pickF rfl rfl rfl)) rfl ?_
 refine JL_nil ?_
 refine JQ_then_n ?_
 refine J_no rfl rfl ?_
 refine J_skip ?_
 refine JQ_then_n ?_
 refine J_seq ?_
 have hC : cir T = T - 1 + T % 2 := rfl
 obtain ⟨cc, hcc⟩ : ∃ cc, cir T = 2 * cc + 1 := ⟨(cir T - 1) / 2, by omega⟩
 have hC2 : (T : Int) + (T : Int) % 2 = ((cir T : Nat) : Int) + 1 := by omega
 refine J_keep (l' := [(0, _), (1, _)]) ⟨rfl, rfl, trivial⟩ ?_
 refine J_reg ?_
 refine JM rfl rfl rfl rfl rfl ?_
 refine JM rfl rfl rfl rfl rfl ?_
 refine JL_val rfl (wn0 rfl) (RP.rv (rp2 rfl rfl (fun ρ hx hy w => ex_rem rfl hx hy (by omega) (by omega)))) rfl ?_
 refine JL_val rfl (wn0 rfl) (RP.rv (rp2 rfl rfl (fun ρ hx hy w => ex_add rfl hx hy (by omega)))) rfl ?_
 refine JN rfl rfl rfl rfl rfl ?_
 refine JL_nil ?_
 refine JQ_then_n ?_
 refine J_seq ?_
 refine J_own0 41 1 ?_
 refine J_sls0 2 eP ?_
 refine J_keep (l' := [(0, _), (1, _), (6, _)]) ⟨rfl, rfl, rfl, trivial⟩ ?_
 refine J_reg ?_
 refine JN rfl rfl rfl rfl rfl ?_
 refine JL_nil ?_
 refine JQ_then_n ?_
 refine J_seq ?_
 refine J_seq ?_
 refine J_reg ?_
 refine JN rfl rfl rfl rfl rfl ?_
 refine JL_nil ?_
 refine JQ_then_n ?_
 refine J_block ?_
 refine J_loop (T := Nat × Option Addr × Nat × List (Dv (Int × Int))) (fun q => q.1 ≤ cir T ∧ q.2.2.2.map Dv.l = drI T L q.1 ∧ DvNew w (fun _ => False) q.2.2.2) (fun q => [(0, .int .i64 (T : Nat)), (1, .int .i64 (L : Nat)), (6, .int .i64 (((cir T : Nat) : Int) + 1)), (7, .slice q.2.1 q.2.2.2.length q.2.2.1), (8, .int .i64 (q.1 : Nat))]) (fun q => [ownB 41 1 q.2.1 q.2.2.2.length q.2.2.1 (q.2.2.2.flatMap eD), slsB 2 eP q.2.2.2]) (fun q => cir T - q.1) (0, none, 0, []) ⟨Nat.zero_le _, rfl, DvNew.nil⟩ ⟨rfl, rfl, (congrArg (fun z => some (Value.int .i64 z)) hC2), rfl, rfl, trivial⟩ (by repeat (first | exact Pk.nil _ | (refine Pk.pick (by repeat (first | exact Rm.here _ | apply Rm.there)) ?_))) ?_
 rintro ⟨r, A7, c7, D⟩ ⟨hr, hD, hN⟩
 dsimp only at hr hD hN ⊢
 refine J_seq ?_
 refine J_seq ?_
 refine J_reg ?_
 refine JM rfl rfl rfl rfl rfl ?_
 refine JM rfl rfl rfl rfl rfl ?_
 refine JL_val rfl (wn0 rfl) (RP.rv (rp2 rfl rfl (fun ρ hx hy w => ex_sub rfl hx hy (by omega)))) rfl ?_
 refine JL_val rfl (wn0 rfl) (RP.rv (rp2 rfl rfl (fun ρ hx hy w => ex_lssD rfl hx hy))) rfl ?_
 refine JL_dec (fun h27 => ?_) (fun h27 => ?_)
 ·refine JL_nil ?_
  refine JQ_then_n ?_
  refine J_yes rfl rfl ?_
  refine J_skip ?_
  refine JQ_then_n ?_
  refine J_seq ?_
  refine J_block ?_
  refine J_seq ?_
  refine J_own0 42 2 ?_
  refine J_keep (l' := [(0, _), (1, _), (6, _), (7, _), (8, _)]) ⟨rfl, rfl, rfl, rfl, rfl, trivial⟩ ?_
  refine J_reg ?_
  refine JN rfl rfl rfl rfl rfl ?_
  refine JL_nil ?_
  refine JQ_then_n ?_
  refine J_cut (T := Option Addr × Nat) (fun q => True) (fun q => [(0, .int .i64 (T : Nat)), (1, .int .i64 (L : Nat)), (6, .int .i64 (((cir T : Nat) : Int) + 1)), (7, .slice A7 D.length c7), (8, .int .i64 (r : Nat)), (9, .slice q.1 ((gm0 T r ++ gm1 T r 0).map iP).length q.2)]) (fun q => [ownB 42 2 q.1 ((gm0 T r ++ gm1 T r 0).map iP).length q.2 (((gm0 T r ++ gm1 T r 0).map iP).flatMap eP), ownB 41 1 A7 D.length c7 (D.flatMap eD), slsB 2 eP D]) ?_ ?_
  ·refine J_seq ?_
   refine J_reg ?_
   refine JM rfl rfl rfl rfl rfl ?_
   refine JM rfl rfl rfl rfl rfl ?_
   refine JL_val rfl (wn0 rfl) (RP.rv (rp2 rfl rfl (fun ρ hx hy w => ex_eqlD rfl hx hy))) rfl ?_
   refine JL_dec (fun h32 => ?_) (fun h32 => ?_)
   ·refine JL_nil ?_
    refine JQ_then_n ?_
    refine J_yes rfl rfl ?_
    refine J_reg ?_
    refine JM rfl rfl rfl rfl rfl ?_
    refine JM rfl rfl rfl rfl rfl ?_
    refine JL_val rfl (wn0 rfl) (RP.rv (rp2 rfl rfl (fun ρ hx hy w => ex_sub rfl hx hy (by omega)))) rfl ?_
    refine JM rfl rfl rfl rfl rfl ?_
    refine JL_op (wn0 rfl) (ow_callB (ec_fn rfl rfl cf_62) rfl rfl (fun w hw => (by have h := pairN (cir T) r w; rw [show ((cir T : Nat) : Int) = ((cir T : Nat) : Int) + 1 - 1 by omega] at h; exact h))) (fun _ _ => ?_)
    refine JL_op (wn0 rfl) (ow_sliceC (vs := [_, _]) (ty := 42) rfl rfl (by rfl) rfl rfl (fun _ => by kernel_rfl)) (fun b38 hb38 => ?_)
    refine JL_opS (wn0 rfl) (ow_app1 (L := ([] : List (Int × Int))) EP (by decide) (iP (pr (cir T) r)) Try.underlying41 Try.info42 rfl (by decide) rfl rfl rfl rfl rfl (by repeat (first | exact List.Mem.head _ | apply List.Mem.tail)) (by rfl) (by decide) (by intro A c; repeat (first | exact At.here _ | apply At.there))) (fun A39 c39 => ?_)
    refine JN rfl rfl rfl rfl rfl ?_
    refine JL_nil ?_
    have eg : ((gm0 T r ++ gm1 T r 0).map iP) = [iP (pr (cir T) r)] := by unfold gm0 gm1; rw [if_pos (by omega)]; simp [pr, Nat.min_comm, Nat.max_comm]
    rw [eg]
    exact JQ_cut (A39, c39) trivial ⟨rfl, rfl, rfl, rfl, rfl, rfl, trivial⟩ (by dsimp only; repeat (first | exact Pk.nil _ | (refine Pk.pick (by repeat (first | exact Rm.here _ | apply Rm.there)) ?_)))
   ·refine JL_nil ?_
    refine JQ_then_n ?_
    refine J_no rfl rfl ?_
    refine J_skip ?_
    have eg : ((gm0 T r ++ gm1 T r 0).map iP) = [] := by unfold gm0 gm1; rw [if_neg (by omega)]; rfl
    rw [eg]
    exact JQ_cut (none, 0) trivial ⟨rfl, rfl, rfl, rfl, rfl, rfl, trivial⟩ (by dsimp only; repeat (first | exact Pk.nil _ | (refine Pk.pick (by repeat (first | exact Rm.here _ | apply Rm.there)) ?_)))
  ·rintro ⟨A9, c9⟩ -
   dsimp only
   refine J_seq ?_
   refine J_seq ?_
   refine J_reg ?_
   refine JN rfl rfl rfl rfl rfl ?_
   refine JL_nil ?_
   refine JQ_then_n ?_
   refine J_block ?_
   refine J_loop (T := Nat × Option Addr × Nat) (fun q => q.1 ≤ (cir T - 1) / 2) (fun q => [(0, .int .i64 (T : Nat)), (1, .int .i64 (L : Nat)), (6, .int .i64 (((cir T : Nat) : Int) + 1)), (7, .slice A7 D.length c7), (8, .int .i64 (r : Nat)), (9, .slice q.2.1 ((gm0 T r ++ gm1 T r q.1).map iP).length q.2.2), (10, .int .i64 (((q.1 : Nat) : Int) + 1))]) (fun q => [ownB 42 2 q.2.1 ((gm0 T r ++ gm1 T r q.1).map iP).length q.2.2 (((gm0 T r ++ gm1 T r q.1).map iP).flatMap eP), ownB 41 1 A7 D.length c7 (D.flatMap eD), slsB 2 eP D]) (fun q => (cir T - 1) / 2 - q.1) (0, A9, c9) (Nat.zero_le _) ⟨rfl, rfl, rfl, rfl, rfl, rfl, rfl, trivial⟩ (by repeat (first | exact Pk.nil _ | (refine Pk.pick (by repeat (first | exact Rm.here _ | apply Rm.there)) ?_))) ?_
   rintro ⟨k, A9, c9⟩ hk
   dsimp only at hk ⊢
   refine J_seq ?_
   refine J_seq ?_
   refine J_reg ?_
   refine JM rfl rfl rfl rfl rfl ?_
   refine JM rfl rfl rfl rfl rfl ?_
   refine JL_val rfl (wn0 rfl) (RP.rv (rp2 rfl rfl (fun ρ hx hy w => ex_quo rfl hx hy (by omega) (by omega)))) rfl ?_
   refine JL_val rfl (wn0 rfl) (RP.rv (rp2 rfl rfl (fun ρ hx hy w => ex_lssD rfl hx hy))) rfl ?_
   refine JL_dec (fun h43 => ?_) (fun h43 => ?_)
   ·refine JL_nil ?_
    refine JQ_then_n ?_
    refine J_yes rfl rfl ?_
    refine J_skip ?_
    refine JQ_then_n ?_
    refine J_seq ?_
    refine J_block ?_
    have e1 : (((r : Nat) : Int) + (((k : Nat) : Int) + 1)) % (((cir T : Nat) : Int) + 1 - 1) = (((r + (k + 1)) % cir T : Nat) : Int) := by rw [show ((cir T : Nat) : Int) + 1 - 1 = ((cir T : Nat) : Int) by omega]; exact (Int.natCast_emod ..).symm
    have e2 : (((r : Nat) : Int) - (((k : Nat) : Int) + 1) + (((cir T : Nat) : Int) + 1) - 1) % (((cir T : Nat) : Int) + 1 - 1) = (((r + cir T - (k + 1)) % cir T : Nat) : Int) := by rw [show ((cir T : Nat) : Int) + 1 - 1 = ((cir T : Nat) : Int) by omega, show ((r : Nat) : Int) - (((k : Nat) : Int) + 1) + (((cir T : Nat) : Int) + 1) - 1 = ((r + cir T - (k + 1) : Nat) : Int) by omega]; exact (Int.natCast_emod ..).symm
    have hln : ((gm0 T r ++ gm1 T r k).map iP).length ≤ 20 := by rw [List.length_map, List.length_append, gm1_len]; have := gm0_len T r; omega
    refine J_keep (l' := [(0, _), (1, _), (6, _), (7, _), (8, _), (9, _), (10, _)]) ⟨rfl, rfl, rfl, rfl, rfl, rfl, rfl, trivial⟩ ?_
    refine J_draw [] (by kernel_rfl) ?_
    refine JA_takeP (i := 0) rfl rfl (by kernel_rfl) (by kernel_rfl) (by kernel_rfl) rfl (wn0 rfl) (rp_move rfl rfl) rfl ?_
    refine JA_takeP (i := 1) rfl rfl (by kernel_rfl) (by kernel_rfl) (by kernel_rfl) rfl (wn0 rfl) (rp_move rfl rfl) rfl ?_
    refine JA_takeP (i := 2) rfl rfl (by kernel_rfl) (by kernel_rfl) (by kernel_rfl) rfl (wn0 rfl) (rp_move rfl rfl) rfl ?_
    refine JA_takeP (i := 3) rfl rfl (by kernel_rfl) (by kernel_rfl) (by kernel_rfl) rfl (wn0 rfl) (rp2 rfl rfl (fun ρ hx hy w => ex_add rfl hx hy (by omega))) rfl ?_
    refine JA_takeP (i := 4) rfl rfl (by kernel_rfl) (by kernel_rfl) (by kernel_rfl) rfl (wn0 rfl) (rp_move rfl rfl) rfl ?_
    refine JA_takeP (i := 5) rfl rfl (by kernel_rfl) (by kernel_rfl) (by kernel_rfl) rfl (wn0 rfl) (rp2 rfl rfl (fun ρ hx hy w => ex_sub rfl hx hy (by omega))) rfl ?_
    refine JA_takeP (i := 6) rfl rfl (by kernel_rfl) (by kernel_rfl) (by kernel_rfl) rfl (wn0 rfl) (rp2 rfl rfl (fun ρ hx hy w => ex_rem rfl hx hy (by omega) (by omega))) rfl ?_
    refine JA_takeP (i := 7) rfl rfl (by kernel_rfl) (by kernel_rfl) (by kernel_rfl) rfl (wn0 rfl) (rp_move rfl rfl) rfl ?_
    refine JA_takeP (i := 8) rfl rfl (by kernel_rfl) (by kernel_rfl) (by kernel_rfl) rfl (wn0 rfl) (rp_move rfl rfl) rfl ?_
    refine JA_takeP (i := 9) rfl rfl (by kernel_rfl) (by kernel_rfl) (by kernel_rfl) rfl (wn0 rfl) (rp2 rfl rfl (fun ρ hx hy w => ex_sub rfl hx hy (by omega))) rfl ?_
    refine JA_takeP (i := 10) rfl rfl (by kernel_rfl) (by kernel_rfl) (by kernel_rfl) rfl (wn0 rfl) (rp_move rfl rfl) rfl ?_
    refine JA_takeP (i := 11) rfl rfl (by kernel_rfl) (by kernel_rfl) (by kernel_rfl) rfl (wn0 rfl) (rp2 rfl rfl (fun ρ hx hy w => ex_add rfl hx hy (by omega))) rfl ?_
    refine JA_takeP (i := 12) rfl rfl (by kernel_rfl) (by kernel_rfl) (by kernel_rfl) rfl (wn0 rfl) (rp2 rfl rfl (fun ρ hx hy w => ex_sub rfl hx hy (by omega))) rfl ?_
    refine JA_takeP (i := 13) rfl rfl (by kernel_rfl) (by kernel_rfl) (by kernel_rfl) rfl (wn0 rfl) (rp_move rfl rfl) rfl ?_
    refine JA_takeP (i := 14) rfl rfl (by kernel_rfl) (by kernel_rfl) (by kernel_rfl) rfl (wn0 rfl) (rp2 rfl rfl (fun ρ hx hy w => ex_sub rfl hx hy (by omega))) rfl ?_
    refine JA_takeP (i := 15) rfl rfl (by kernel_rfl) (by kernel_rfl) (by kernel_rfl) rfl (wn0 rfl) (rp2 rfl rfl (fun ρ hx hy w => ex_rem rfl hx hy (by omega) (by omega))) rfl ?_
    refine JA_one (i := 16) (by kernel_rfl) rfl (wn0 rfl) (ow_callB (ec_fn rfl rfl cf_62) rfl rfl (fun w hw => (by have h := pairN ((r + (k + 1)) % cir T) ((r + cir T - (k + 1)) % cir T) w; rw [← e1, ← e2] at h; exact h))) trivial (fun _ _ => ?_)
    refine JA_one (i := 17) (by kernel_rfl) rfl (wn0 rfl) (ow_sliceC (vs := [_, _]) (ty := 42) rfl rfl (by rfl) rfl rfl (fun _ => by kernel_rfl)) trivial (fun b63 hb63 => ?_)
    refine JA_oneS (i := 18) (by kernel_rfl) rfl (wn0 rfl) (ow_app1 EP (by decide) (iP (pr ((r + (k + 1)) % cir T) ((r + cir T - (k + 1)) % cir T))) Try.underlying41 Try.info42 rfl (by decide) rfl rfl rfl rfl rfl (by repeat (first | exact List.Mem.head _ | apply List.Mem.tail)) (by rfl) (by omega) (by intro A c; repeat (first | exact At.here _ | apply At.there))) ⟨by kernel_rfl, .inl (by kernel_rfl)⟩ (fun A64 c64 => ?_)
    refine JA_takeP (i := 19) rfl rfl (by kernel_rfl) (by kernel_rfl) (by kernel_rfl) rfl (wn0 rfl) (rp_assign rfl rfl) rfl ?_
    refine JA_done (by kernel_rfl) ?_
    refine JQ_block_n ?_
    refine JQ_then_n ?_
    refine J_keep (l' := [(0, _), (1, _), (6, _), (7, _), (8, _), (9, _), (10, _)]) ⟨rfl, rfl, rfl, rfl, rfl, rfl, rfl, trivial⟩ ?_
    refine J_reg ?_
    refine JM rfl rfl rfl rfl rfl ?_
    refine JL_val rfl (wn0 rfl) (RP.rv (rp2 rfl rfl (fun ρ hx hy w => ex_add rfl hx hy (by omega)))) rfl ?_
    refine JN rfl rfl rfl rfl rfl ?_
    refine JL_nil ?_
    exact JQ_round (k + 1, A64, c64) (by dsimp only; omega) (by dsimp only; omega) ⟨rfl, rfl, rfl, rfl, rfl, (by rw [gm1I]; rfl), (congrArg some (by go_num)), trivial⟩ (by (try dsimp only); rw [gm1I]; repeat (first | exact Pk.nil _ | (refine Pk.pick (by repeat (first | exact Rm.here _ | apply Rm.there)) ?_)))
   ·refine JL_nil ?_
    refine JQ_then_n ?_
    refine J_no rfl rfl ?_
    refine J_exit ?_
    refine JQ_then_x ?_
    refine JQ_then_x ?_
    refine JQ_block_y rfl ?_
    refine JQ_then_n ?_
    refine J_block ?_
    obtain rfl : k = (cir T - 1) / 2 := by omega
    have egm : ((gm0 T r ++ gm1 T r ((cir T - 1) / 2)).map iP) = (gmP T r).map iP := rfl
    rw [egm]
    have hgl := gmP_len9 (T := T) (by omega) r
    refine J_fact (fun hf => ?_)
    have hsm : (gmP T r).map iP ≠ [] → ∃ g o, A9 = some ⟨g, o, none⟩ ∧ w.heap.size ≤ g := by
      intro hne
      obtain ⟨g, e⟩ := own_some (A := A9) (ty := 42) (k := 2) hf (by repeat (first | exact List.Mem.head _ | apply List.Mem.tail)) (List.length_pos_iff.2 hne)
      exact ⟨g, 0, e, (own_new (α := Int × Int) (OB := fun _ => False) (A := A9) (ty := 42) (kk := 2) (nn := 0) (cp := c9) (L := [(0, 0)]) hf (by repeat (first | exact List.Mem.head _ | apply List.Mem.tail)) _ (List.mem_singleton.2 rfl) (by simp) g 0 e).resolve_right (fun h => h)⟩
    refine J_freeze EP (by repeat (first | exact At.here _ | apply At.there)) (by rw [List.length_map]; omega) ?_
    refine J_loop (T := Nat × Option Addr × Nat × List (Int × Int) × Option Addr × Nat × List (Dv (Int × Int))) (fun q => q.2.2.2.2.2.2.map Dv.l ++ chI L q.2.2.2.1 = drI T L (r + 1) ∧ DvNew w (fun _ => False) q.2.2.2.2.2.2 ∧ q.2.2.2.1.length ≤ 9 ∧ (q.2.2.2.1 ≠ [] → ∃ g o, q.2.1 = some ⟨g, o, none⟩ ∧ w.heap.size ≤ g)) (fun q => [(0, .int .i64 (T : Nat)), (1, .int .i64 (L : Nat)), (6, .int .i64 (((cir T : Nat) : Int) + 1)), (7, .slice q.2.2.2.2.1 q.2.2.2.2.2.2.length q.2.2.2.2.2.1), (8, .int .i64 (r : Nat)), (9, .slice q.2.1 q.2.2.2.1.length q.2.2.1)]) (fun q => [slsB 2 eP [⟨q.2.1, q.2.2.2.1.length, q.2.2.1, q.2.2.2.1⟩], ownB 41 1 q.2.2.2.2.1 q.2.2.2.2.2.2.length q.2.2.2.2.2.1 (q.2.2.2.2.2.2.flatMap eD), slsB 2 eP q.2.2.2.2.2.2]) (fun q => q.2.2.2.1.length) (0, A9, c9, (gmP T r).map iP, A7, c7, D) ⟨by dsimp only; rw [hD, drI_succ], hN, by dsimp only; rw [List.length_map]; exact gmP_len9 (by omega) r, hsm⟩ ⟨rfl, rfl, rfl, rfl, rfl, rfl, trivial⟩ (by repeat (first | exact Pk.nil _ | (refine Pk.pick (by repeat (first | exact Rm.here _ | apply Rm.there)) ?_))) ?_
    rintro ⟨z, A9b, c9b, gl, A7b, c7b, E⟩ ⟨hE, hEN, hgl9, hgs⟩
    dsimp only at hE hEN hgl9 hgs ⊢
    refine J_seq ?_
    refine J_seq ?_
    refine J_reg ?_
    refine JM rfl rfl rfl rfl rfl ?_
    refine JL_val rfl (wn0 rfl) (RP.rv (rp1 rfl (fun ρ hx w => ex_len (A := _) (c := _) rfl Try.underlying41 hx))) rfl ?_
    refine JL_val rfl (wn0 rfl) (RP.rv (rp2 rfl rfl (fun ρ hx hy w => ex_gtrD rfl hx hy))) rfl ?_
    refine JL_dec (fun h67 => ?_) (fun h67 => ?_)
    ·refine JL_nil ?_
     refine JQ_then_n ?_
     refine J_yes rfl rfl ?_
     refine J_skip ?_
     refine JQ_then_n ?_
     refine J_block ?_
     refine J_seq ?_
     have hpos : 0 < gl.length := by omega
     obtain ⟨g9, o9, eg9, hg9⟩ := hgs (List.length_pos_iff.1 hpos)
     have hEl : E.length ≤ 9 * 17 := by
       have h1 := drI_len (T := T) (by omega) L (r + 1)
       rw [← hE, List.length_append, List.length_map] at h1
       omega
     refine J_reg ?_
     refine JM rfl rfl rfl rfl rfl ?_
     refine JM rfl rfl rfl rfl rfl ?_
     refine JL_val rfl (wn0 rfl) (RP.rv (rp1 rfl (fun ρ hx w => ex_len (A := _) (c := _) rfl Try.underlying41 hx))) rfl ?_
     refine JL_val rfl (wn0 rfl) (RP.rv (rp2 rfl rfl (fun ρ hx hy w => ex_min rfl hx hy))) rfl ?_
     refine JN rfl rfl rfl rfl rfl ?_
     refine JL_nil ?_
     refine JQ_then_n ?_
     refine J_seq ?_
     refine J_parts (m := min L gl.length) (by repeat (first | exact Rm.here _ | apply Rm.there)) (Nat.min_le_right _ _) ?_
     refine J_fact (fun hf => ?_)
     have hcp : gl.length ≤ c9b := by
       obtain ⟨w', hw'⟩ := hf
       obtain ⟨A', c', e, h1, -⟩ := (hw'.ok (slsB 2 eP [⟨A9b, gl.length, c9b, gl⟩]) (by repeat (first | exact List.Mem.head _ | apply List.Mem.tail))).1 ⟨A9b, gl.length, c9b, gl⟩ (List.mem_singleton.2 rfl)
       dsimp only [Dv.v] at e h1
       rw [Value.slice.injEq] at e
       omega
     refine J_merge (D := E) (D' := [⟨A9b, min L gl.length, c9b, gl.take (min L gl.length)⟩]) (by repeat (first | exact Rm.here _ | apply Rm.there)) (by repeat (first | exact Rm.here _ | apply Rm.there)) ?_
     refine J_keep (l' := [(0, _), (1, _), (6, _), (7, _), (8, _), (9, _), (11, _)]) ⟨rfl, rfl, rfl, rfl, rfl, rfl, rfl, trivial⟩ ?_
     refine J_reg ?_
     refine JM rfl rfl rfl rfl rfl ?_
     refine JM rfl rfl rfl rfl rfl ?_
     refine JM rfl rfl rfl rfl rfl ?_
     refine JL_val rfl (wn0 rfl) (RP.rv (rp_sliceTo (k := (min L gl.length)) rfl rfl rfl Try.underlying41 sz_42 (by omega) (by omega))) rfl ?_
     refine JL_op (wn0 rfl) (ow_sliceC (vs := [_]) (ty := 41) rfl rfl (by rfl) rfl rfl (fun _ => by kernel_rfl)) (fun b76 hb76 => ?_)
     refine JL_opS (wn0 rfl) (ow_app1 ED (by decide) ((⟨A9b, min L gl.length, c9b, gl.take (min L gl.length)⟩ : Dv (Int × Int))) Try.underlying35 Try.info41 rfl (by decide) rfl rfl rfl rfl rfl (by repeat (first | exact List.Mem.head _ | apply List.Mem.tail)) (by rfl) (by omega) (by intro A c; repeat (first | exact At.here _ | apply At.there))) (fun A77 c77 => ?_)
     refine JN rfl rfl rfl rfl rfl ?_
     refine JL_nil ?_
     refine JQ_then_n ?_
     refine J_keep (l' := [(0, _), (1, _), (6, _), (7, _), (8, _), (9, _), (11, _)]) ⟨rfl, rfl, rfl, rfl, rfl, rfl, rfl, trivial⟩ ?_
     refine J_reg ?_
     refine JM rfl rfl rfl rfl rfl ?_
     refine JM rfl rfl rfl rfl rfl ?_
     refine JL_val rfl (wn0 rfl) (RP.rv (rp_sliceFrom (k := (min L gl.length)) rfl rfl rfl Try.underlying41 sz_42 (by omega) (by omega))) rfl ?_
     refine JN rfl rfl rfl rfl rfl ?_
     refine JL_nil ?_
     refine JQ_block_n ?_
     have hmm : gl.drop (min L gl.length) = gl.drop L := by
       rcases Nat.le_total L gl.length with h | h
       · rw [Nat.min_eq_left h]
       · rw [Nat.min_eq_right h, List.drop_of_length_le (Nat.le_refl _), List.drop_of_length_le h]
     have htt : gl.take (min L gl.length) = gl.take L := by
       rcases Nat.le_total L gl.length with h | h
       · rw [Nat.min_eq_left h]
       · rw [Nat.min_eq_right h, List.take_length, List.take_of_length_le h]
     have hE3 : (E ++ [(⟨A9b, min L gl.length, c9b, gl.take (min L gl.length)⟩ : Dv (Int × Int))]).map Dv.l ++ chI L (gl.drop (min L gl.length)) = drI T L (r + 1) := by
       rw [← hE, chI_step (by omega) hpos, List.map_append, List.append_assoc, hmm, htt]; rfl
     have hN3 : DvNew w (fun _ => False) (E ++ [⟨A9b, min L gl.length, c9b, gl.take (min L gl.length)⟩]) := hEN.app (fun p hp hn b o e => by
       rw [List.mem_singleton.1 hp] at e
       dsimp only at e
       rw [eg9] at e
       injection e with e
       injection e with e1
       exact .inl (by omega))
     have hg3 : gl.drop (min L gl.length) ≠ [] → ∃ g o, (if c9b = min L gl.length then A9b else A9b.map (·.add (min L gl.length * 2))) = some ⟨g, o, none⟩ ∧ w.heap.size ≤ g := fun _ => by
       by_cases hc : c9b = min L gl.length
       · rw [if_pos hc]; exact ⟨g9, o9, eg9, hg9⟩
       · rw [if_neg hc, eg9]; exact ⟨g9, o9 + min L gl.length * 2, by show some (Addr.add _ _) = _; rw [Addr.add_mid], hg9⟩
     exact JQ_round (0, (if c9b = min L gl.length then A9b else A9b.map (·.add (min L gl.length * 2)) : Option Addr), c9b - min L gl.length, gl.drop (min L gl.length), A77, c77, E ++ [⟨A9b, min L gl.length, c9b, gl.take (min L gl.length)⟩]) ⟨hE3, hN3, by dsimp only; rw [List.length_drop]; omega, hg3⟩ (by dsimp only; rw [List.length_drop]; omega) ⟨rfl, rfl, rfl, rfl, rfl, (by rw [List.length_drop]; rfl), trivial⟩ (by (try dsimp only); rw [List.length_drop]; repeat (first | exact Pk.nil _ | (refine Pk.pick (by repeat (first | exact Rm.here _ | apply Rm.there)) ?_)))
    ·refine JL_nil ?_
     refine JQ_then_n ?_
     refine J_no rfl rfl ?_
     refine J_exit ?_
     refine JQ_then_x ?_
     refine JQ_then_x ?_
     refine JQ_block_y rfl ?_
     refine JQ_block_n ?_
     refine JQ_then_n ?_
     refine J_keep (l' := [(0, _), (1, _), (6, _), (7, _), (8, _)]) ⟨rfl, rfl, rfl, rfl, rfl, trivial⟩ ?_
     refine J_reg ?_
     refine JM rfl rfl rfl rfl rfl ?_
     refine JL_val rfl (wn0 rfl) (RP.rv (rp2 rfl rfl (fun ρ hx hy w => ex_add rfl hx hy (by omega)))) rfl ?_
     refine JN rfl rfl rfl rfl rfl ?_
     refine JL_nil ?_
     have hgl : gl = [] := List.length_eq_zero_iff.1 (by omega)
     subst hgl
     have hE2 : E.map Dv.l = drI T L (r + 1) := by rw [← hE]; simp [chI, chk]
     exact JQ_round (r + 1, A7b, c7b, E) ⟨by dsimp only; omega, hE2, hEN⟩ (by dsimp only; omega) ⟨rfl, rfl, rfl, rfl, (congrArg some (by go_num)), trivial⟩ (by repeat (first | exact Pk.nil _ | (refine Pk.pick (by repeat (first | exact Rm.here _ | apply Rm.there)) ?_)))
 ·refine JL_nil ?_
  refine JQ_then_n ?_
  refine J_no rfl rfl ?_
  refine J_exit ?_
  refine JQ_then_x ?_
  refine JQ_then_x ?_
  refine JQ_block_y rfl ?_
  refine JQ_then_n ?_
  refine J_seq ?_
  refine J_keep (l' := [(7, _)]) ⟨rfl, trivial⟩ ?_
  refine J_reg ?_
  refine JM rfl rfl rfl rfl rfl ?_
  refine JN rfl rfl rfl rfl rfl ?_
  refine JN rfl rfl rfl rfl rfl ?_
  refine JL_nil ?_
  refine JQ_then_n ?_
  refine J_ret ?_
  refine JR_two rfl (rr_tmp rfl) (rr_tmp rfl) ?_
  intro w' hw
  obtain rfl : r = cir T := by omega
  exact ⟨A7, c7, D, hD, rfl, hw.pick (by repeat (first | exact Pk.nil _ | (refine Pk.pick (by repeat (first | exact Rm.here _ | apply Rm.there)) ?_))), hN⟩
end Go.Proofs.Ytlfbbofcnonhdaa
