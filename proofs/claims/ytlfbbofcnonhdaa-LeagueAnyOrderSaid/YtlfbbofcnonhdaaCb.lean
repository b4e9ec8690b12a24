/- The document on brackets: CheckBracket, SameBracket, Page. -/
import Derived.Test.YtlfbbofcnonhdaaCa
namespace Go.Proofs.Ytlfbbofcnonhdaa
open Go Go.RowKit Go.Proofs

set_option maxRecDepth 100000 in
set_option maxHeartbeats 4000000 in
theorem Check18 (T : Int) (G : List Gm) (R : List (Int × Int)) (w : World) (A A2 : Option Addr) (c c2 : Nat) (hG : Arr 4 eG w (.slice A G.length c) G) (hR : Arr 2 eP w (.slice A2 R.length c2) R) (hGl : G.length ≤ 100) (hRl : R.length ≤ 100) : Calls Try.prog 18 #[Brv T A G.length c A2 R.length c2] w (Back (.bool (ckB T G R)) w) := by
 refine J_enter (fun _ => False) (vs := [Brv T A G.length c A2 R.length c2]) (k := 70) (l := [(0, Brv T A G.length c A2 R.length c2)]) Try.func18 rfl rfl Try.ntmps18 rfl rfl (Wd.start _) ?_
 refine J_seq ?_
 refine J_reg ?_
 refine JL_op (wn0 rfl) (ow_box (vs := [_, _, _]) rfl rfl rfl rfl rfl) (fun b1 hb1 => ?_)
 refine JN rfl rfl rfl rfl rfl ?_
 refine JL_nil ?_
 refine JQ_then_n ?_
 refine J_seq ?_
 refine J_seq ?_
 refine J_reg ?_
 refine JP (rp_fieldC (off' := 0) rfl rfl fa_25_0 rfl) ?_
 refine JV (rv_cell rfl rfl ag_3 (by repeat constructor) (by rfl)) ?_
 refine JL_op (wn0 rfl) (ow_callP (ec_fn rfl rfl cf_52) rfl rfl (fun w hw => in52 T 2 16 w)) (fun _ _ => ?_)
 refine JL_bool (fun h7 => ?_) (fun h7 => ?_)
 ·refine JP (rp1 rfl (fun ρ hx w => ex_not rfl hx)) ?_
  refine JM rfl rfl rfl rfl rfl ?_
  refine JPg (rp_fieldC (off' := 1) rfl rfl fa_25_1 rfl) ?_
  refine JVg (rv_cell rfl rfl ag_22 (by repeat constructor) (by rfl)) ?_
  refine JPg (rp1 rfl (fun ρ hx w => ex_len (A := _) (c := _) rfl Try.underlying22 hx)) ?_
  refine JL_op (wn_g rfl rfl rfl rfl) (ow_callP (ec_fn rfl rfl cf_52) rfl rfl (fun w hw => in52 (G.length : Nat) 1 64 w)) (fun _ _ => ?_)
  refine JL_bool (fun h13 => ?_) (fun h13 => ?_)
  ·refine JPg (rp1 rfl (fun ρ hx w => ex_not rfl hx)) ?_
   refine JP (rp_pickF rfl rfl rfl) ?_
   refine JM rfl rfl rfl rfl rfl ?_
   refine JPg (rp_fieldC (off' := 2) rfl rfl fa_25_2 rfl) ?_
   refine JVg (rv_cell rfl rfl ag_23 (by repeat constructor) (by rfl)) ?_
   refine JPg (rp1 rfl (fun ρ hx w => ex_len (A := _) (c := _) rfl Try.underlying23 hx)) ?_
   refine JPg (rp_fieldC (off' := 0) rfl rfl fa_25_0 rfl) ?_
   refine JVg (rv_cell rfl rfl ag_3 (by repeat constructor) (by rfl)) ?_
   refine JPg (rp2 rfl rfl (fun ρ hx hy w => ex_neqD rfl hx hy)) ?_
   refine JL_dec (fun h22 => ?_) (fun h22 => ?_)
   ·refine JP (rp_pickF rfl rfl rfl) ?_
    refine JL_nil ?_
    refine JQ_then_n ?_
    refine J_yes rfl rfl ?_
    refine J_seq ?_
    refine J_keep (l' := []) trivial ?_
    refine J_reg ?_
    refine JN rfl rfl rfl rfl rfl ?_
    refine JL_nil ?_
    refine JQ_then_n ?_
    refine J_ret ?_
    refine JQ_then_r ?_
    refine JR_one rfl (rr_tmp rfl) ?_
    intro w' hw
    have e : ckB T G R = false := by
      unfold ckB
      rw [decide_eq_false (show ¬ ((R.length : Int) = T) by omega)]
      simp
    rw [e]
    exact ⟨rfl, hw.bel⟩
   ·refine JP (rp_pickF rfl rfl rfl) ?_
    refine JL_nil ?_
    refine JQ_then_n ?_
    refine J_no rfl rfl ?_
    refine J_skip ?_
    refine JQ_then_n ?_
    refine J_seq ?_
    refine J_seq ?_
    refine J_keep (l' := [(1, _)]) ⟨rfl, trivial⟩ ?_
    refine J_reg ?_
    refine JN rfl rfl rfl rfl rfl ?_
    refine JL_nil ?_
    refine JQ_then_n ?_
    refine J_block ?_
    have hb7 := of_decide_eq_true h7
    have hb13 := of_decide_eq_true h13
    have hb22 : (R.length : Int) = T := by omega
    refine J_loop (T := Nat) (fun i => i ≤ G.length ∧ (List.range i).all (gmC T G R) = true) (fun i => [(1, .pointer (some ⟨b1, 0, none⟩)), (3, .int .i64 (i : Nat))]) (fun i => [cellB b1 [.int .i64 T, .slice A G.length c, .slice A2 R.length c2] 25]) (fun i => G.length - i) 0 ⟨Nat.zero_le _, rfl⟩ ⟨rfl, rfl, trivial⟩ (by repeat constructor) ?_
    rintro i ⟨hi, hal⟩
    refine J_seq ?_
    refine J_seq ?_
    refine J_reg ?_
    refine JM rfl rfl rfl rfl rfl ?_
    refine JP (rp_fieldC (off' := 1) rfl rfl fa_25_1 rfl) ?_
    refine JV (rv_cell rfl rfl ag_22 (by repeat constructor) (by rfl)) ?_
    refine JP (rp1 rfl (fun ρ hx w => ex_len (A := _) (c := _) rfl Try.underlying22 hx)) ?_
    refine JP (rp2 rfl rfl (fun ρ hx hy w => ex_lssD rfl hx hy)) ?_
    refine JL_dec (fun h28 => ?_) (fun h28 => ?_)
    ·refine JL_nil ?_
     refine JQ_then_n ?_
     refine J_yes rfl rfl ?_
     refine J_skip ?_
     refine JQ_then_n ?_
     refine J_seq ?_
     refine J_block ?_
     refine J_seq ?_
     obtain ⟨Ag, cg, eg, -, -, hA⟩ := id hG
     injection eg with e1 e2 e3
     subst e1 e3
     have hlt : i < G.length := by omega
     obtain ⟨b, p, rfl, hh⟩ := hA (by intro e; subst e; simp at hlt)
     obtain ⟨g, hg⟩ : ∃ g, G[i]'hlt = g := ⟨_, rfl⟩
     have hgd : G.getD i ((0, 0), (0, 0)) = g := by rw [List.getD_eq_getElem?_getD, List.getElem?_eq_getElem hlt]; exact hg
     refine J_keep (l' := [(1, _), (3, _)]) ⟨rfl, rfl, trivial⟩ ?_
     refine J_draw [0, 2, 6, 11, 13, 17] (by kernel_rfl) ?_
     refine JAL (i := 0) rfl (rv_agg (cs := [_, _, _]) rfl rfl ag_25 sz_25 (by repeat constructor) (by rfl)) ?_
     refine JAP (i := 1) rfl (rp_fieldC (off' := 1) rfl rfl fa_25_1 rfl) ?_
     refine JAL (i := 2) rfl (rv_cell rfl rfl ag_22 (by repeat constructor) (by rfl)) ?_
     refine JAP (i := 3) rfl (rp_move rfl rfl) ?_
     refine JAP (i := 4) rfl (rp2 rfl rfl (fun ρ hx hy w => ex_indexI (k := i) rfl hx hy rfl Try.underlying22 sz_90 (by omega))) ?_
     refine JAP (i := 5) rfl (rp_arrE (i' := 0) rfl rfl rfl ia_90_0 rfl) ?_
     refine JAL (i := 6) rfl (rv_holdpart (j := i) (i := 0) (m := 2) (cs := [.int .i64 g.1.1, .int .i64 g.1.2]) EG rfl rfl ag_89 sz_89 (fun h => h) hh (by omega) (by omega) (by rw [hg]; rfl)) ?_
     refine JAP (i := 7) rfl (rp_move rfl rfl) ?_
     refine JA_one (i := 8) (by kernel_rfl) rfl (wn0 rfl) (ow_callB (ec_fn rfl rfl cf_56) rfl rfl (fun w hw => from56 T G R g.1 (i : Nat) w _ _ c c2 (hG.up EG hw.bel) (hR.up EP hw.bel) (by omega) (by omega) (by omega) (by omega))) trivial (fun _ _ => ?_)
     refine JA_bool (fun h39 => ?_) (fun h39 => ?_)
     ·refine JAP (i := 9) rfl (rp1 rfl (fun ρ hx w => ex_not rfl hx)) ?_
      refine JAP (i := 10) rfl (rp_move rfl rfl) ?_
      refine JA_takeL (i := 11) rfl rfl (by kernel_rfl) (by kernel_rfl) (by kernel_rfl) rfl rfl (by repeat constructor) (wn_g rfl rfl rfl rfl) (rv_agg (cs := [_, _, _]) rfl rfl ag_25 sz_25 (by repeat constructor) (by rfl)) rfl ?_
      refine JA_takeP (i := 12) rfl rfl (by kernel_rfl) (by kernel_rfl) (by kernel_rfl) rfl (wn_g rfl rfl rfl rfl) (rp_fieldC (off' := 1) rfl rfl fa_25_1 rfl) rfl ?_
      refine JA_takeL (i := 13) rfl rfl (by kernel_rfl) (by kernel_rfl) (by kernel_rfl) rfl rfl (by repeat constructor) (wn_g rfl rfl rfl rfl) (rv_cell rfl rfl ag_22 (by repeat constructor) (by rfl)) rfl ?_
      refine JA_takeP (i := 14) rfl rfl (by kernel_rfl) (by kernel_rfl) (by kernel_rfl) rfl (wn_g rfl rfl rfl rfl) (rp_move rfl rfl) rfl ?_
      refine JA_takeP (i := 15) rfl rfl (by kernel_rfl) (by kernel_rfl) (by kernel_rfl) rfl (wn_g rfl rfl rfl rfl) (rp2 rfl rfl (fun ρ hx hy w => ex_indexI (k := i) rfl hx hy rfl Try.underlying22 sz_90 (by omega))) rfl ?_
      refine JA_takeP (i := 16) rfl rfl (by kernel_rfl) (by kernel_rfl) (by kernel_rfl) rfl (wn_g rfl rfl rfl rfl) (rp_arrE (i' := 2) rfl rfl rfl ia_90_1 rfl) rfl ?_
      refine JA_takeL (i := 17) rfl rfl (by kernel_rfl) (by kernel_rfl) (by kernel_rfl) rfl rfl (by repeat constructor) (wn_g rfl rfl rfl rfl) (rv_holdpart (j := i) (i := 2) (m := 2) (cs := [.int .i64 g.2.1, .int .i64 g.2.2]) EG rfl rfl ag_89 sz_89 (fun h => h) hh (by omega) (by omega) (by rw [hg]; rfl)) rfl ?_
      refine JA_takeP (i := 18) rfl rfl (by kernel_rfl) (by kernel_rfl) (by kernel_rfl) rfl (wn_g rfl rfl rfl rfl) (rp_move rfl rfl) rfl ?_
      refine JA_one (i := 19) (by kernel_rfl) rfl (wn_g rfl rfl rfl rfl) (ow_callB (ec_fn rfl rfl cf_56) rfl rfl (fun w hw => from56 T G R g.2 (i : Nat) w _ _ c c2 (hG.up EG hw.bel) (hR.up EP hw.bel) (by omega) (by omega) (by omega) (by omega))) trivial (fun _ _ => ?_)
      refine JA_bool (fun h50 => ?_) (fun h50 => ?_)
      ·refine JA_takeP (i := 20) rfl rfl (by kernel_rfl) (by kernel_rfl) (by kernel_rfl) rfl (wn_g rfl rfl rfl rfl) (rp1 rfl (fun ρ hx w => ex_not rfl hx)) rfl ?_
       refine JAP (i := 21) rfl (rp_pickF rfl rfl rfl) ?_
       refine JA_done (by kernel_rfl) ?_
       refine JQ_then_n ?_
       refine J_no rfl rfl ?_
       refine J_skip ?_
       refine JQ_block_n ?_
       refine JQ_then_n ?_
       refine J_keep (l' := [(1, _), (3, _)]) ⟨rfl, rfl, trivial⟩ ?_
       refine J_reg ?_
       refine JM rfl rfl rfl rfl rfl ?_
       refine JP (rp2 rfl rfl (fun ρ hx hy w => ex_add rfl hx hy (by omega))) ?_
       refine JN rfl rfl rfl rfl rfl ?_
       refine JL_nil ?_
       have hgc : gmC T G R i = true := by unfold gmC; rw [hgd, h39, h50]; rfl
       exact JQ_round (i + 1) ⟨by omega, by rw [all_succ, hal, hgc]; rfl⟩ (by omega) ⟨rfl, (congrArg some (by go_num)), trivial⟩ (by repeat constructor)
      ·refine JA_takeP (i := 20) rfl rfl (by kernel_rfl) (by kernel_rfl) (by kernel_rfl) rfl (wn_g rfl rfl rfl rfl) (rp1 rfl (fun ρ hx w => ex_not rfl hx)) rfl ?_
       refine JAP (i := 21) rfl (rp_pickF rfl rfl rfl) ?_
       refine JA_done (by kernel_rfl) ?_
       refine JQ_then_n ?_
       refine J_yes rfl rfl ?_
       refine J_seq ?_
       refine J_keep (l' := []) trivial ?_
       refine J_reg ?_
       refine JN rfl rfl rfl rfl rfl ?_
       refine JL_nil ?_
       refine JQ_then_n ?_
       refine J_ret ?_
       refine JQ_block_r ?_
       refine JQ_then_r ?_
       refine JQ_then_r ?_
       refine JQ_block_r ?_
       refine JQ_then_r ?_
       refine JR_one rfl (rr_tmp rfl) ?_
       have hgc : gmC T G R i = false := by unfold gmC; rw [hgd, h39, h50]; rfl
       intro w' hw
       have e : ckB T G R = false := by
         unfold ckB
         rw [all_bad _ hlt hgc]
         simp
       rw [e]
       exact ⟨rfl, hw.bel⟩
     ·refine JAP (i := 9) rfl (rp1 rfl (fun ρ hx w => ex_not rfl hx)) ?_
      refine JAP (i := 10) rfl (rp_move rfl rfl) ?_
      refine JA_offL (i := 11) rfl rfl (by kernel_rfl) (by kernel_rfl) (by kernel_rfl) rfl (by repeat constructor) (wn_g rfl rfl rfl rfl) rfl ?_
      refine JA_off (i := 12) rfl rfl (by kernel_rfl) (by kernel_rfl) (by kernel_rfl) rfl (wn_g rfl rfl rfl rfl) rfl ?_
      refine JA_offL (i := 13) rfl rfl (by kernel_rfl) (by kernel_rfl) (by kernel_rfl) rfl (by repeat constructor) (wn_g rfl rfl rfl rfl) rfl ?_
      refine JA_off (i := 14) rfl rfl (by kernel_rfl) (by kernel_rfl) (by kernel_rfl) rfl (wn_g rfl rfl rfl rfl) rfl ?_
      refine JA_off (i := 15) rfl rfl (by kernel_rfl) (by kernel_rfl) (by kernel_rfl) rfl (wn_g rfl rfl rfl rfl) rfl ?_
      refine JA_off (i := 16) rfl rfl (by kernel_rfl) (by kernel_rfl) (by kernel_rfl) rfl (wn_g rfl rfl rfl rfl) rfl ?_
      refine JA_offL (i := 17) rfl rfl (by kernel_rfl) (by kernel_rfl) (by kernel_rfl) rfl (by repeat constructor) (wn_g rfl rfl rfl rfl) rfl ?_
      refine JA_off (i := 18) rfl rfl (by kernel_rfl) (by kernel_rfl) (by kernel_rfl) rfl (wn_g rfl rfl rfl rfl) rfl ?_
      refine JA_off (i := 19) rfl rfl (by kernel_rfl) (by kernel_rfl) (by kernel_rfl) rfl (wn_g rfl rfl rfl rfl) rfl ?_
      refine JA_off (i := 20) rfl rfl (by kernel_rfl) (by kernel_rfl) (by kernel_rfl) rfl (wn_g rfl rfl rfl rfl) rfl ?_
      refine JAP (i := 21) rfl (rp_pickT rfl rfl rfl) ?_
      refine JA_done (by kernel_rfl) ?_
      refine JQ_then_n ?_
      refine J_yes rfl rfl ?_
      refine J_seq ?_
      refine J_keep (l' := []) trivial ?_
      refine J_reg ?_
      refine JN rfl rfl rfl rfl rfl ?_
      refine JL_nil ?_
      refine JQ_then_n ?_
      refine J_ret ?_
      refine JQ_block_r ?_
      refine JQ_then_r ?_
      refine JQ_then_r ?_
      refine JQ_block_r ?_
      refine JQ_then_r ?_
      refine JR_one rfl (rr_tmp rfl) ?_
      have hgc : gmC T G R i = false := by unfold gmC; rw [hgd, h39]; rfl
      intro w' hw
      have e : ckB T G R = false := by
        unfold ckB
        rw [all_bad _ hlt hgc]
        simp
      rw [e]
      exact ⟨rfl, hw.bel⟩
    ·refine JL_nil ?_
     refine JQ_then_n ?_
     refine J_no rfl rfl ?_
     refine J_exit ?_
     refine JQ_then_x ?_
     refine JQ_then_x ?_
     refine JQ_block_y rfl ?_
     refine JQ_then_n ?_
     refine J_seq ?_
     refine J_seq ?_
     refine J_keep (l' := [(1, _)]) ⟨rfl, trivial⟩ ?_
     refine J_reg ?_
     refine JN rfl rfl rfl rfl rfl ?_
     refine JL_nil ?_
     refine JQ_then_n ?_
     refine J_block ?_
     obtain rfl : i = G.length := by omega
     refine J_loop (T := Nat) (fun k => k ≤ R.length ∧ (List.range k).all (plC T G R) = true) (fun k => [(1, .pointer (some ⟨b1, 0, none⟩)), (4, .int .i64 (k : Nat))]) (fun k => [cellB b1 [.int .i64 T, .slice A G.length c, .slice A2 R.length c2] 25]) (fun k => R.length - k) 0 ⟨Nat.zero_le _, rfl⟩ ⟨rfl, rfl, trivial⟩ (by repeat constructor) ?_
     rintro k ⟨hk, hal2⟩
     refine J_seq ?_
     refine J_seq ?_
     refine J_reg ?_
     refine JM rfl rfl rfl rfl rfl ?_
     refine JP (rp_fieldC (off' := 2) rfl rfl fa_25_2 rfl) ?_
     refine JV (rv_cell rfl rfl ag_23 (by repeat constructor) (by rfl)) ?_
     refine JP (rp1 rfl (fun ρ hx w => ex_len (A := _) (c := _) rfl Try.underlying23 hx)) ?_
     refine JP (rp2 rfl rfl (fun ρ hx hy w => ex_lssD rfl hx hy)) ?_
     refine JL_dec (fun h57 => ?_) (fun h57 => ?_)
     ·refine JL_nil ?_
      refine JQ_then_n ?_
      refine J_yes rfl rfl ?_
      refine J_skip ?_
      refine JQ_then_n ?_
      refine J_seq ?_
      refine J_block ?_
      refine J_seq ?_
      obtain ⟨Ag, cg, eg, -, -, hA⟩ := id hR
      injection eg with e1 e2 e3
      subst e1 e3
      have hlt2 : k < R.length := by omega
      obtain ⟨b, p, rfl, hh⟩ := hA (by intro e; subst e; simp at hlt2)
      obtain ⟨y, hy⟩ : ∃ y, R[k]'hlt2 = y := ⟨_, rfl⟩
      have hyd : R.getD k (0, 0) = y := by rw [List.getD_eq_getElem?_getD, List.getElem?_eq_getElem hlt2]; exact hy
      refine J_keep (l' := [(1, _), (4, _)]) ⟨rfl, rfl, trivial⟩ ?_
      refine J_draw [0, 2, 5, 7] (by kernel_rfl) ?_
      refine JAL (i := 0) rfl (rv_agg (cs := [_, _, _]) rfl rfl ag_25 sz_25 (by repeat constructor) (by rfl)) ?_
      refine JAP (i := 1) rfl (rp_fieldC (off' := 2) rfl rfl fa_25_2 rfl) ?_
      refine JAL (i := 2) rfl (rv_cell rfl rfl ag_23 (by repeat constructor) (by rfl)) ?_
      refine JAP (i := 3) rfl (rp_move rfl rfl) ?_
      refine JAP (i := 4) rfl (rp2 rfl rfl (fun ρ hx hy w => ex_indexI (k := k) rfl hx hy rfl Try.underlying23 sz_89 (by omega))) ?_
      refine JAL (i := 5) rfl (rv_holdagg (j := k) (cs := [.int .i64 y.1, .int .i64 y.2]) EP rfl rfl ag_89 sz_89 (fun h => h) hh (by omega) (by rw [hy]; rfl)) ?_
      refine JAP (i := 6) rfl (rp_fieldC (off' := 1) rfl rfl fa_25_1 rfl) ?_
      refine JAL (i := 7) rfl (rv_cell rfl rfl ag_22 (by repeat constructor) (by rfl)) ?_
      refine JAP (i := 8) rfl (rp1 rfl (fun ρ hx w => ex_len (A := _) (c := _) rfl Try.underlying22 hx)) ?_
      refine JA_one (i := 9) (by kernel_rfl) rfl (wn0 rfl) (ow_callB (ec_fn rfl rfl cf_56) rfl rfl (fun w hw => from56 T G R y (G.length : Nat) w _ _ c c2 (hG.up EG hw.bel) (hR.up EP hw.bel) (by omega) (by omega) (by omega) (by omega))) trivial (fun _ _ => ?_)
      refine JA_bool (fun h69 => ?_) (fun h69 => ?_)
      ·refine JAP (i := 10) rfl (rp1 rfl (fun ρ hx w => ex_not rfl hx)) ?_
       refine JA_done (by kernel_rfl) ?_
       refine JQ_then_n ?_
       refine J_no rfl rfl ?_
       refine J_skip ?_
       refine JQ_block_n ?_
       refine JQ_then_n ?_
       refine J_keep (l' := [(1, _), (4, _)]) ⟨rfl, rfl, trivial⟩ ?_
       refine J_reg ?_
       refine JM rfl rfl rfl rfl rfl ?_
       refine JP (rp2 rfl rfl (fun ρ hx hy w => ex_add rfl hx hy (by omega))) ?_
       refine JN rfl rfl rfl rfl rfl ?_
       refine JL_nil ?_
       have hpc : plC T G R k = true := by unfold plC; rw [hyd, h69]
       exact JQ_round (k + 1) ⟨by omega, by rw [all_succ, hal2, hpc]; rfl⟩ (by omega) ⟨rfl, (congrArg some (by go_num)), trivial⟩ (by repeat constructor)
      ·refine JAP (i := 10) rfl (rp1 rfl (fun ρ hx w => ex_not rfl hx)) ?_
       refine JA_done (by kernel_rfl) ?_
       refine JQ_then_n ?_
       refine J_yes rfl rfl ?_
       refine J_seq ?_
       refine J_keep (l' := []) trivial ?_
       refine J_reg ?_
       refine JN rfl rfl rfl rfl rfl ?_
       refine JL_nil ?_
       refine JQ_then_n ?_
       refine J_ret ?_
       refine JQ_block_r ?_
       refine JQ_then_r ?_
       refine JQ_then_r ?_
       refine JQ_block_r ?_
       refine JQ_then_r ?_
       refine JR_one rfl (rr_tmp rfl) ?_
       have hpc : plC T G R k = false := by unfold plC; rw [hyd, h69]
       intro w' hw
       have e : ckB T G R = false := by
         unfold ckB
         rw [all_bad _ hlt2 hpc]
         simp
       rw [e]
       exact ⟨rfl, hw.bel⟩
     ·refine JL_nil ?_
      refine JQ_then_n ?_
      refine J_no rfl rfl ?_
      refine J_exit ?_
      refine JQ_then_x ?_
      refine JQ_then_x ?_
      refine JQ_block_y rfl ?_
      refine JQ_then_n ?_
      refine J_seq ?_
      refine J_keep (l' := []) trivial ?_
      refine J_reg ?_
      refine JN rfl rfl rfl rfl rfl ?_
      refine JL_nil ?_
      refine JQ_then_n ?_
      refine J_ret ?_
      refine JR_one rfl (rr_tmp rfl) ?_
      obtain rfl : k = R.length := by omega
      intro w' hw
      have e : ckB T G R = true := by
        unfold ckB
        rw [hal, hal2, h7, h13, decide_eq_true hb22]
        rfl
      rw [e]
      exact ⟨rfl, hw.bel⟩
  ·refine JPg (rp1 rfl (fun ρ hx w => ex_not rfl hx)) ?_
   refine JP (rp_pickF rfl rfl rfl) ?_
   refine JM rfl rfl rfl rfl rfl ?_
   refine JF ?_
   refine JF ?_
   refine JF ?_
   refine JF ?_
   refine JF ?_
   refine JF ?_
   refine JP (rp_pickT rfl rfl rfl) ?_
   refine JL_nil ?_
   refine JQ_then_n ?_
   refine J_yes rfl rfl ?_
   refine J_seq ?_
   refine J_keep (l' := []) trivial ?_
   refine J_reg ?_
   refine JN rfl rfl rfl rfl rfl ?_
   refine JL_nil ?_
   refine JQ_then_n ?_
   refine J_ret ?_
   refine JQ_then_r ?_
   refine JR_one rfl (rr_tmp rfl) ?_
   intro w' hw
   have e : ckB T G R = false := by
     unfold ckB
     rw [h13]
     simp
   rw [e]
   exact ⟨rfl, hw.bel⟩
 ·refine JP (rp1 rfl (fun ρ hx w => ex_not rfl hx)) ?_
  refine JM rfl rfl rfl rfl rfl ?_
  refine JF ?_
  refine JF ?_
  refine JF ?_
  refine JF ?_
  refine JF ?_
  refine JP (rp_pickT rfl rfl rfl) ?_
  refine JM rfl rfl rfl rfl rfl ?_
  refine JF ?_
  refine JF ?_
  refine JF ?_
  refine JF ?_
  refine JF ?_
  refine JF ?_
  refine JP (rp_pickT rfl rfl rfl) ?_
  refine JL_nil ?_
  refine JQ_then_n ?_
  refine J_yes rfl rfl ?_
  refine J_seq ?_
  refine J_keep (l' := []) trivial ?_
  refine J_reg ?_
  refine JN rfl rfl rfl rfl rfl ?_
  refine JL_nil ?_
  refine JQ_then_n ?_
  refine J_ret ?_
  refine JQ_then_r ?_
  refine JR_one rfl (rr_tmp rfl) ?_
  intro w' hw
  have e : ckB T G R = false := by
    unfold ckB
    rw [h7]
    simp
  rw [e]
  exact ⟨rfl, hw.bel⟩
set_option maxRecDepth 100000 in
set_option maxHeartbeats 4000000 in
theorem Same19 (T : Int) (G : List Gm) (R : List (Int × Int)) (w : World) (A A2 : Option Addr) (c c2 : Nat) (hG : Arr 4 eG w (.slice A G.length c) G) (hR : Arr 2 eP w (.slice A2 R.length c2) R) (T' : Int) (G' : List Gm) (R' : List (Int × Int)) (A' A2' : Option Addr) (c' c2' : Nat) (hG' : Arr 4 eG w (.slice A' G'.length c') G') (hR' : Arr 2 eP w (.slice A2' R'.length c2') R') (hGl : G.length ≤ 100) (hRl : R.length ≤ 100) : Calls Try.prog 19 #[Brv T A G.length c A2 R.length c2, Brv T' A' G'.length c' A2' R'.length c2'] w (Back (.bool (decide ((T = T' ∧ G = G') ∧ R = R'))) w) := by
 refine J_enter (fun _ => False) (vs := [Brv T A G.length c A2 R.length c2, Brv T' A' G'.length c' A2' R'.length c2']) (k := 64) (l := [(0, Brv T A G.length c A2 R.length c2), (1, Brv T' A' G'.length c' A2' R'.length c2')]) Try.func19 rfl rfl Try.ntmps19 rfl rfl (Wd.start _) ?_
 refine J_seq ?_
 refine J_reg ?_
 refine JL_op (wn0 rfl) (ow_box (vs := [_, _, _]) rfl rfl rfl rfl rfl) (fun b2 hb2 => ?_)
 refine JL_op (wn0 rfl) (ow_box (vs := [_, _, _]) rfl rfl rfl rfl rfl) (fun b3 hb3 => ?_)
 refine JN rfl rfl rfl rfl rfl ?_
 refine JL_nil ?_
 refine JQ_then_n ?_
 refine J_seq ?_
 refine J_seq ?_
 refine J_reg ?_
 refine JP (rp_fieldC (off' := 0) rfl rfl fa_25_0 rfl) ?_
 refine JV (rv_cell rfl rfl ag_3 (by repeat constructor) (by rfl)) ?_
 refine JP (rp_fieldC (off' := 0) rfl rfl fa_25_0 rfl) ?_
 refine JV (rv_cell rfl rfl ag_3 (by repeat constructor) (by rfl)) ?_
 refine JP (rp2 rfl rfl (fun ρ hx hy w => ex_neqD rfl hx hy)) ?_
 refine JL_dec (fun h11 => ?_) (fun h11 => ?_)
 ·refine JM rfl rfl rfl rfl rfl ?_
  refine JF ?_
  refine JF ?_
  refine JF ?_
  refine JF ?_
  refine JF ?_
  refine JF ?_
  refine JF ?_
  refine JP (rp_pickT rfl rfl rfl) ?_
  refine JM rfl rfl rfl rfl rfl ?_
  refine JF ?_
  refine JF ?_
  refine JF ?_
  refine JF ?_
  refine JF ?_
  refine JF ?_
  refine JF ?_
  refine JP (rp_pickT rfl rfl rfl) ?_
  refine JL_nil ?_
  refine JQ_then_n ?_
  refine J_yes rfl rfl ?_
  refine J_seq ?_
  refine J_keep (l' := []) trivial ?_
  refine J_reg ?_
  refine JN rfl rfl rfl rfl rfl ?_
  refine JL_nil ?_
  refine JQ_then_n ?_
  refine J_ret ?_
  refine JQ_then_r ?_
  refine JR_one rfl (rr_tmp rfl) ?_
  intro w' hw
  have e : decide ((T = T' ∧ G = G') ∧ R = R') = false := decide_eq_false (fun h => h11 h.1.1)
  rw [e]
  exact ⟨rfl, hw.bel⟩
 ·refine JM rfl rfl rfl rfl rfl ?_
  refine JPg (rp_fieldC (off' := 1) rfl rfl fa_25_1 rfl) ?_
  refine JVg (rv_cell rfl rfl ag_22 (by repeat constructor) (by rfl)) ?_
  refine JPg (rp1 rfl (fun ρ hx w => ex_len (A := _) (c := _) rfl Try.underlying22 hx)) ?_
  refine JPg (rp_fieldC (off' := 1) rfl rfl fa_25_1 rfl) ?_
  refine JVg (rv_cell rfl rfl ag_22 (by repeat constructor) (by rfl)) ?_
  refine JPg (rp1 rfl (fun ρ hx w => ex_len (A := _) (c := _) rfl Try.underlying22 hx)) ?_
  refine JPg (rp2 rfl rfl (fun ρ hx hy w => ex_neqD rfl hx hy)) ?_
  refine JL_dec (fun h19 => ?_) (fun h19 => ?_)
  ·refine JP (rp_pickF rfl rfl rfl) ?_
   refine JM rfl rfl rfl rfl rfl ?_
   refine JF ?_
   refine JF ?_
   refine JF ?_
   refine JF ?_
   refine JF ?_
   refine JF ?_
   refine JF ?_
   refine JP (rp_pickT rfl rfl rfl) ?_
   refine JL_nil ?_
   refine JQ_then_n ?_
   refine J_yes rfl rfl ?_
   refine J_seq ?_
   refine J_keep (l' := []) trivial ?_
   refine J_reg ?_
   refine JN rfl rfl rfl rfl rfl ?_
   refine JL_nil ?_
   refine JQ_then_n ?_
   refine J_ret ?_
   refine JQ_then_r ?_
   refine JR_one rfl (rr_tmp rfl) ?_
   intro w' hw
   have e : decide ((T = T' ∧ G = G') ∧ R = R') = false := decide_eq_false (fun h => h19 (by rw [h.1.2]))
   rw [e]
   exact ⟨rfl, hw.bel⟩
  ·refine JP (rp_pickF rfl rfl rfl) ?_
   refine JM rfl rfl rfl rfl rfl ?_
   refine JPg (rp_fieldC (off' := 2) rfl rfl fa_25_2 rfl) ?_
   refine JVg (rv_cell rfl rfl ag_23 (by repeat constructor) (by rfl)) ?_
   refine JPg (rp1 rfl (fun ρ hx w => ex_len (A := _) (c := _) rfl Try.underlying23 hx)) ?_
   refine JPg (rp_fieldC (off' := 2) rfl rfl fa_25_2 rfl) ?_
   refine JVg (rv_cell rfl rfl ag_23 (by repeat constructor) (by rfl)) ?_
   refine JPg (rp1 rfl (fun ρ hx w => ex_len (A := _) (c := _) rfl Try.underlying23 hx)) ?_
   refine JPg (rp2 rfl rfl (fun ρ hx hy w => ex_neqD rfl hx hy)) ?_
   refine JL_dec (fun h28 => ?_) (fun h28 => ?_)
   ·refine JP (rp_pickF rfl rfl rfl) ?_
    refine JL_nil ?_
    refine JQ_then_n ?_
    refine J_yes rfl rfl ?_
    refine J_seq ?_
    refine J_keep (l' := []) trivial ?_
    refine J_reg ?_
    refine JN rfl rfl rfl rfl rfl ?_
    refine JL_nil ?_
    refine JQ_then_n ?_
    refine J_ret ?_
    refine JQ_then_r ?_
    refine JR_one rfl (rr_tmp rfl) ?_
    intro w' hw
    have e : decide ((T = T' ∧ G = G') ∧ R = R') = false := decide_eq_false (fun h => h28 (by rw [h.2]))
    rw [e]
    exact ⟨rfl, hw.bel⟩
   ·refine JP (rp_pickF rfl rfl rfl) ?_
    refine JL_nil ?_
    refine JQ_then_n ?_
    refine J_no rfl rfl ?_
    refine J_skip ?_
    refine JQ_then_n ?_
    refine J_seq ?_
    refine J_seq ?_
    refine J_keep (l' := [(2, _), (3, _)]) ⟨rfl, rfl, trivial⟩ ?_
    refine J_reg ?_
    refine JN rfl rfl rfl rfl rfl ?_
    refine JL_nil ?_
    refine JQ_then_n ?_
    refine J_block ?_
    have hgl : G.length = G'.length := by omega
    have hrl : R.length = R'.length := by omega
    have hTT : T = T' := by omega
    refine J_loop (T := Nat) (fun i => i ≤ G.length ∧ G.take i = G'.take i) (fun i => [(2, .pointer (some ⟨b2, 0, none⟩)), (3, .pointer (some ⟨b3, 0, none⟩)), (5, .int .i64 (i : Nat))]) (fun i => [cellB b2 [.int .i64 T, .slice A G.length c, .slice A2 R.length c2] 25, cellB b3 [.int .i64 T', .slice A' G'.length c', .slice A2' R'.length c2'] 25]) (fun i => G.length - i) 0 ⟨Nat.zero_le _, rfl⟩ ⟨rfl, rfl, rfl, trivial⟩ (by repeat constructor) ?_
    rintro i ⟨hi, htk⟩
    refine J_seq ?_
    refine J_seq ?_
    refine J_reg ?_
    refine JM rfl rfl rfl rfl rfl ?_
    refine JP (rp_fieldC (off' := 1) rfl rfl fa_25_1 rfl) ?_
    refine JV (rv_cell rfl rfl ag_22 (by repeat constructor) (by rfl)) ?_
    refine JP (rp1 rfl (fun ρ hx w => ex_len (A := _) (c := _) rfl Try.underlying22 hx)) ?_
    refine JP (rp2 rfl rfl (fun ρ hx hy w => ex_lssD rfl hx hy)) ?_
    refine JL_dec (fun h34 => ?_) (fun h34 => ?_)
    ·refine JL_nil ?_
     refine JQ_then_n ?_
     refine J_yes rfl rfl ?_
     refine J_skip ?_
     refine JQ_then_n ?_
     refine J_seq ?_
     refine J_block ?_
     refine J_seq ?_
     obtain ⟨Ag, cg, eg, -, -, hA⟩ := id hG
     injection eg with e1 e2 e3
     subst e1 e3
     have hlt : i < G.length := by omega
     obtain ⟨b, p, rfl, hh⟩ := hA (by intro e; subst e; simp at hlt)
     obtain ⟨Ag', cg', eg', -, -, hA'⟩ := id hG'
     injection eg' with e1 e2 e3
     subst e1 e3
     have hlt' : i < G'.length := by omega
     obtain ⟨b', p', rfl, hh'⟩ := hA' (by intro e; subst e; simp at hlt')
     obtain ⟨g, hg⟩ : ∃ g, G[i]'hlt = g := ⟨_, rfl⟩
     obtain ⟨g', hg'⟩ : ∃ g, G'[i]'hlt' = g := ⟨_, rfl⟩
     refine J_keep (l' := [(2, _), (3, _), (5, _)]) ⟨rfl, rfl, rfl, trivial⟩ ?_
     refine J_draw [1, 4, 6, 9] (by kernel_rfl) ?_
     refine JAP (i := 0) rfl (rp_fieldC (off' := 1) rfl rfl fa_25_1 rfl) ?_
     refine JAL (i := 1) rfl (rv_cell rfl rfl ag_22 (by repeat constructor) (by rfl)) ?_
     refine JAP (i := 2) rfl (rp_move rfl rfl) ?_
     refine JAP (i := 3) rfl (rp2 rfl rfl (fun ρ hx hy w => ex_indexI (k := i) rfl hx hy rfl Try.underlying22 sz_90 (by omega))) ?_
     refine JAL (i := 4) rfl (rv_holdagg (j := i) (cs := [.int .i64 g.1.1, .int .i64 g.1.2, .int .i64 g.2.1, .int .i64 g.2.2]) EG rfl rfl ag_90 sz_90 (fun h => h) hh (by omega) (by rw [hg]; rfl)) ?_
     refine JAP (i := 5) rfl (rp_fieldC (off' := 1) rfl rfl fa_25_1 rfl) ?_
     refine JAL (i := 6) rfl (rv_cell rfl rfl ag_22 (by repeat constructor) (by rfl)) ?_
     refine JAP (i := 7) rfl (rp_move rfl rfl) ?_
     refine JAP (i := 8) rfl (rp2 rfl rfl (fun ρ hx hy w => ex_indexI (k := i) rfl hx hy rfl Try.underlying22 sz_90 (by omega))) ?_
     refine JAL (i := 9) rfl (rv_holdagg (j := i) (cs := [.int .i64 g'.1.1, .int .i64 g'.1.2, .int .i64 g'.2.1, .int .i64 g'.2.2]) EG rfl rfl ag_90 sz_90 (fun h => h) hh' (by omega) (by rw [hg']; rfl)) ?_
     refine JAP (i := 10) rfl (rp2 rfl rfl (fun ρ hx hy w => ex_neq90 rfl hx hy)) ?_
     refine JA_dec (fun h47 => ?_) (fun h47 => ?_)
     ·refine JA_done (by kernel_rfl) ?_
      refine JQ_then_n ?_
      refine J_yes rfl rfl ?_
      refine J_seq ?_
      refine J_keep (l' := []) trivial ?_
      refine J_reg ?_
      refine JN rfl rfl rfl rfl rfl ?_
      refine JL_nil ?_
      refine JQ_then_n ?_
      refine J_ret ?_
      refine JQ_block_r ?_
      refine JQ_then_r ?_
      refine JQ_then_r ?_
      refine JQ_block_r ?_
      refine JQ_then_r ?_
      refine JR_one rfl (rr_tmp rfl) ?_
      intro w' hw
      have e : decide ((T = T' ∧ G = G') ∧ R = R') = false := decide_eq_false (fun h => by
        have h1 := h.1.2
        subst h1
        rw [hg] at hg'
        subst hg'
        simp at h47)
      rw [e]
      exact ⟨rfl, hw.bel⟩
     ·refine JA_done (by kernel_rfl) ?_
      refine JQ_then_n ?_
      refine J_no rfl rfl ?_
      refine J_skip ?_
      refine JQ_block_n ?_
      refine JQ_then_n ?_
      refine J_keep (l' := [(2, _), (3, _), (5, _)]) ⟨rfl, rfl, rfl, trivial⟩ ?_
      refine J_reg ?_
      refine JM rfl rfl rfl rfl rfl ?_
      refine JP (rp2 rfl rfl (fun ρ hx hy w => ex_add rfl hx hy (by omega))) ?_
      refine JN rfl rfl rfl rfl rfl ?_
      refine JL_nil ?_
      have hgg : g = g' := by
        obtain ⟨⟨q1, q2⟩, q3, q4⟩ := g
        obtain ⟨⟨r1, r2⟩, r3, r4⟩ := g'
        simp only [Prod.mk.injEq]
        dsimp only at h47
        omega
      exact JQ_round (i + 1) ⟨by omega, by rw [List.take_succ_eq_append_getElem hlt, List.take_succ_eq_append_getElem hlt', htk, hg, hg', hgg]⟩ (by omega) ⟨rfl, rfl, (congrArg some (by go_num)), trivial⟩ (by repeat constructor)
    ·refine JL_nil ?_
     refine JQ_then_n ?_
     refine J_no rfl rfl ?_
     refine J_exit ?_
     refine JQ_then_x ?_
     refine JQ_then_x ?_
     refine JQ_block_y rfl ?_
     refine JQ_then_n ?_
     refine J_seq ?_
     refine J_seq ?_
     refine J_keep (l' := [(2, _), (3, _)]) ⟨rfl, rfl, trivial⟩ ?_
     refine J_reg ?_
     refine JN rfl rfl rfl rfl rfl ?_
     refine JL_nil ?_
     refine JQ_then_n ?_
     refine J_block ?_
     obtain rfl : i = G.length := by omega
     have hGG : G = G' := by rw [List.take_length] at htk; rw [htk, hgl, List.take_length]
     refine J_loop (T := Nat) (fun k => k ≤ R.length ∧ R.take k = R'.take k) (fun k => [(2, .pointer (some ⟨b2, 0, none⟩)), (3, .pointer (some ⟨b3, 0, none⟩)), (6, .int .i64 (k : Nat))]) (fun k => [cellB b2 [.int .i64 T, .slice A G.length c, .slice A2 R.length c2] 25, cellB b3 [.int .i64 T', .slice A' G'.length c', .slice A2' R'.length c2'] 25]) (fun k => R.length - k) 0 ⟨Nat.zero_le _, rfl⟩ ⟨rfl, rfl, rfl, trivial⟩ (by repeat constructor) ?_
     rintro k ⟨hk, htk2⟩
     refine J_seq ?_
     refine J_seq ?_
     refine J_reg ?_
     refine JM rfl rfl rfl rfl rfl ?_
     refine JP (rp_fieldC (off' := 2) rfl rfl fa_25_2 rfl) ?_
     refine JV (rv_cell rfl rfl ag_23 (by repeat constructor) (by rfl)) ?_
     refine JP (rp1 rfl (fun ρ hx w => ex_len (A := _) (c := _) rfl Try.underlying23 hx)) ?_
     refine JP (rp2 rfl rfl (fun ρ hx hy w => ex_lssD rfl hx hy)) ?_
     refine JL_dec (fun h52 => ?_) (fun h52 => ?_)
     ·refine JL_nil ?_
      refine JQ_then_n ?_
      refine J_yes rfl rfl ?_
      refine J_skip ?_
      refine JQ_then_n ?_
      refine J_seq ?_
      refine J_block ?_
      refine J_seq ?_
      obtain ⟨Ag, cg, eg, -, -, hA⟩ := id hR
      injection eg with e1 e2 e3
      subst e1 e3
      have hlt : k < R.length := by omega
      obtain ⟨b, p, rfl, hh⟩ := hA (by intro e; subst e; simp at hlt)
      obtain ⟨Ag', cg', eg', -, -, hA'⟩ := id hR'
      injection eg' with e1 e2 e3
      subst e1 e3
      have hlt' : k < R'.length := by omega
      obtain ⟨b', p', rfl, hh'⟩ := hA' (by intro e; subst e; simp at hlt')
      obtain ⟨g, hg⟩ : ∃ g, R[k]'hlt = g := ⟨_, rfl⟩
      obtain ⟨g', hg'⟩ : ∃ g, R'[k]'hlt' = g := ⟨_, rfl⟩
      refine J_keep (l' := [(2, _), (3, _), (6, _)]) ⟨rfl, rfl, rfl, trivial⟩ ?_
      refine J_draw [1, 4, 6, 9] (by kernel_rfl) ?_
      refine JAP (i := 0) rfl (rp_fieldC (off' := 2) rfl rfl fa_25_2 rfl) ?_
      refine JAL (i := 1) rfl (rv_cell rfl rfl ag_23 (by repeat constructor) (by rfl)) ?_
      refine JAP (i := 2) rfl (rp_move rfl rfl) ?_
      refine JAP (i := 3) rfl (rp2 rfl rfl (fun ρ hx hy w => ex_indexI (k := k) rfl hx hy rfl Try.underlying23 sz_89 (by omega))) ?_
      refine JAL (i := 4) rfl (rv_holdagg (j := k) (cs := [.int .i64 g.1, .int .i64 g.2]) EP rfl rfl ag_89 sz_89 (fun h => h) hh (by omega) (by rw [hg]; rfl)) ?_
      refine JAP (i := 5) rfl (rp_fieldC (off' := 2) rfl rfl fa_25_2 rfl) ?_
      refine JAL (i := 6) rfl (rv_cell rfl rfl ag_23 (by repeat constructor) (by rfl)) ?_
      refine JAP (i := 7) rfl (rp_move rfl rfl) ?_
      refine JAP (i := 8) rfl (rp2 rfl rfl (fun ρ hx hy w => ex_indexI (k := k) rfl hx hy rfl Try.underlying23 sz_89 (by omega))) ?_
      refine JAL (i := 9) rfl (rv_holdagg (j := k) (cs := [.int .i64 g'.1, .int .i64 g'.2]) EP rfl rfl ag_89 sz_89 (fun h => h) hh' (by omega) (by rw [hg']; rfl)) ?_
      refine JAP (i := 10) rfl (rp2 rfl rfl (fun ρ hx hy w => ex_neq89 rfl hx hy)) ?_
      refine JA_dec (fun h65 => ?_) (fun h65 => ?_)
      ·refine JA_done (by kernel_rfl) ?_
       refine JQ_then_n ?_
       refine J_yes rfl rfl ?_
       refine J_seq ?_
       refine J_keep (l' := []) trivial ?_
       refine J_reg ?_
       refine JN rfl rfl rfl rfl rfl ?_
       refine JL_nil ?_
       refine JQ_then_n ?_
       refine J_ret ?_
       refine JQ_block_r ?_
       refine JQ_then_r ?_
       refine JQ_then_r ?_
       refine JQ_block_r ?_
       refine JQ_then_r ?_
       refine JR_one rfl (rr_tmp rfl) ?_
       intro w' hw
       have e : decide ((T = T' ∧ G = G') ∧ R = R') = false := decide_eq_false (fun h => by
         have h1 := h.2
         subst h1
         rw [hg] at hg'
         subst hg'
         simp at h65)
       rw [e]
       exact ⟨rfl, hw.bel⟩
      ·refine JA_done (by kernel_rfl) ?_
       refine JQ_then_n ?_
       refine J_no rfl rfl ?_
       refine J_skip ?_
       refine JQ_block_n ?_
       refine JQ_then_n ?_
       refine J_keep (l' := [(2, _), (3, _), (6, _)]) ⟨rfl, rfl, rfl, trivial⟩ ?_
       refine J_reg ?_
       refine JM rfl rfl rfl rfl rfl ?_
       refine JP (rp2 rfl rfl (fun ρ hx hy w => ex_add rfl hx hy (by omega))) ?_
       refine JN rfl rfl rfl rfl rfl ?_
       refine JL_nil ?_
       have hgg : g = g' := by
         obtain ⟨q1, q2⟩ := g
         obtain ⟨r1, r2⟩ := g'
         simp only [Prod.mk.injEq]
         dsimp only at h65
         omega
       exact JQ_round (k + 1) ⟨by omega, by rw [List.take_succ_eq_append_getElem hlt, List.take_succ_eq_append_getElem hlt', htk2, hg, hg', hgg]⟩ (by omega) ⟨rfl, rfl, (congrArg some (by go_num)), trivial⟩ (by repeat constructor)
     ·refine JL_nil ?_
      refine JQ_then_n ?_
      refine J_no rfl rfl ?_
      refine J_exit ?_
      refine JQ_then_x ?_
      refine JQ_then_x ?_
      refine JQ_block_y rfl ?_
      refine JQ_then_n ?_
      refine J_seq ?_
      refine J_keep (l' := []) trivial ?_
      refine J_reg ?_
      refine JN rfl rfl rfl rfl rfl ?_
      refine JL_nil ?_
      refine JQ_then_n ?_
      refine J_ret ?_
      refine JR_one rfl (rr_tmp rfl) ?_
      obtain rfl : k = R.length := by omega
      intro w' hw
      have e : decide ((T = T' ∧ G = G') ∧ R = R') = true := decide_eq_true ⟨⟨hTT, hGG⟩, by rw [List.take_length] at htk2; rw [htk2, hrl, List.take_length]⟩
      rw [e]
      exact ⟨rfl, hw.bel⟩
set_option maxRecDepth 100000 in
set_option maxHeartbeats 4000000 in
theorem Page21 (w : World) : Calls Try.prog 21 #[] w (Ret w (fun _ : BrT => True) (fun t => Brv 4 t.A 4 t.c t.A2 4 t.c2) (BrG pageG pageR)) := by
 refine J_enter (fun _ => False) (vs := []) (k := 20) (l := []) Try.func21 rfl rfl Try.ntmps21 rfl rfl (Wd.start _) ?_
 refine J_seq ?_
 refine J_reg ?_
 refine JL_op (wn0 rfl) (ow_alloc rfl rfl zv_25 rfl rfl) (fun b0 hb0 => ?_)
 refine JL_nil ?_
 refine JQ_then_n ?_
 refine J_seq ?_
 refine J_reg ?_
 refine JP (rp_buildC (fun us => [us.getD 0 undef, us.getD 1 undef]) rfl rfl (fun w => by kernel_rfl)) ?_
 refine JP (rp_buildC (fun us => [us.getD 0 undef, us.getD 1 undef]) rfl rfl (fun w => by kernel_rfl)) ?_
 refine JP (rp_buildC (fun us => [us.getD 0 undef, us.getD 1 undef]) rfl rfl (fun w => by kernel_rfl)) ?_
 refine JP (rp_buildC (fun us => [us.getD 0 undef, us.getD 1 undef]) rfl rfl (fun w => by kernel_rfl)) ?_
 refine JP (rp_buildC (fun us => [us.getD 0 undef, us.getD 1 undef]) rfl rfl (fun w => by kernel_rfl)) ?_
 refine JP (rp_buildC (fun us => [us.getD 0 undef, us.getD 1 undef]) rfl rfl (fun w => by kernel_rfl)) ?_
 refine JP (rp_buildC (fun us => [us.getD 0 undef, us.getD 1 undef]) rfl rfl (fun w => by kernel_rfl)) ?_
 refine JP (rp_buildC (fun us => [us.getD 0 undef, us.getD 1 undef]) rfl rfl (fun w => by kernel_rfl)) ?_
 refine JP (rp_buildC (fun us => [us.getD 0 undef, us.getD 1 undef]) rfl rfl (fun w => by kernel_rfl)) ?_
 refine JP (rp_buildC (fun us => [us.getD 0 undef, us.getD 1 undef]) rfl rfl (fun w => by kernel_rfl)) ?_
 refine JP (rp_buildC (fun us => [us.getD 0 undef, us.getD 1 undef]) rfl rfl (fun w => by kernel_rfl)) ?_
 refine JP (rp_buildC (fun us => [us.getD 0 undef, us.getD 1 undef]) rfl rfl (fun w => by kernel_rfl)) ?_
 refine JL_op (wn0 rfl) (ow_sliceC (vs := [_, _, _, _, _, _, _, _, _, _, _, _, _, _, _, _]) (ty := 90) rfl rfl (by rfl) rfl rfl (fun _ => by kernel_rfl)) (fun b13 hb13 => ?_)
 refine JP (rp_buildC (fun us => [us.getD 0 undef, us.getD 1 undef]) rfl rfl (fun w => by kernel_rfl)) ?_
 refine JP (rp_buildC (fun us => [us.getD 0 undef, us.getD 1 undef]) rfl rfl (fun w => by kernel_rfl)) ?_
 refine JP (rp_buildC (fun us => [us.getD 0 undef, us.getD 1 undef]) rfl rfl (fun w => by kernel_rfl)) ?_
 refine JP (rp_buildC (fun us => [us.getD 0 undef, us.getD 1 undef]) rfl rfl (fun w => by kernel_rfl)) ?_
 refine JL_op (wn0 rfl) (ow_sliceC (vs := [_, _, _, _, _, _, _, _]) (ty := 89) rfl rfl (by rfl) rfl rfl (fun _ => by kernel_rfl)) (fun b18 hb18 => ?_)
 refine JP (rp_buildC (fun us => [us.getD 0 undef, us.getD 1 undef, us.getD 2 undef]) rfl rfl (fun w => by kernel_rfl)) ?_
 refine JL_op (wn0 rfl) (ow_store (cs := [_, _, _]) (vs' := [_, _, _]) rfl rfl rfl rfl rfl sz_25 rfl (by repeat constructor) (by rfl) (by rfl)) (fun _ _ => ?_)
 refine JL_nil ?_
 refine JQ_then_n ?_
 refine J_ret ?_
 refine JR_one rfl (rr_agg (cs := [_, _, _]) rfl ag_25 sz_25 (by repeat constructor) (by rfl)) ?_
 intro w' hw
 refine ⟨⟨some ⟨b13, 0, none⟩, 4, some ⟨b18, 0, none⟩, 4⟩, trivial, rfl, ?_⟩
 have h1 := hw.pick (H' := [cellB b13 [.int .i64 0, .int .i64 0, .int .i64 0, .int .i64 1, .int .i64 0, .int .i64 2, .int .i64 0, .int .i64 3, .int .i64 2, .int .i64 0, .int .i64 1, .int .i64 1, .int .i64 1, .int .i64 0, .int .i64 1, .int .i64 2] 90, cellB b18 [.int .i64 1, .int .i64 3, .int .i64 2, .int .i64 3, .int .i64 2, .int .i64 2, .int .i64 2, .int .i64 1] 89]) (by repeat constructor)
 have h2 := h1.asOwn (kk := 4) (m := 4) (At.here _) rfl (by omega)
 exact h2.asOwn (kk := 2) (m := 4) (At.there _ (At.here _)) rfl (by omega)
end Go.Proofs.Ytlfbbofcnonhdaa
