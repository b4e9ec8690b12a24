/- LeagueAnyOrder: the walk. -/
import Derived.Test.YtlfbbofcnonhdaaPr
import Derived.Test.YtlfbbofcnonhdaaBp
import Derived.Test.YtlfbbofcnonhdaaCn
namespace Go.Proofs.Ytlfbbofcnonhdaa
open Go Go.RowKit Go.Proofs

theorem u8_of {u : Int} (h : (Lit.int .u8 u).wf = true) : U8 u := by
  unfold U8
  have h2 : (decide ((0 : Int) ≤ u) && decide (u ≤ 255)) = true := h
  rw [Bool.and_eq_true] at h2
  exact ⟨of_decide_eq_true h2.1, of_decide_eq_true h2.2⟩
theorem ins_perm {O : List Int} {k at_ : Nat} (h : O.Perm (nums k)) : (O.take at_ ++ [((k : Nat) : Int)] ++ O.drop at_).Perm (nums (k + 1)) := by
  rw [nums_succ]
  have h1 : (O.take at_ ++ [((k : Nat) : Int)] ++ O.drop at_).Perm (((k : Nat) : Int) :: (O.take at_ ++ O.drop at_)) := by
    rw [List.append_assoc]; exact List.perm_middle
  rw [List.take_append_drop] at h1
  exact h1.trans ((h.cons _).trans (List.perm_append_singleton ..).symm)
theorem seen_no {L : List Int} (hn : L.Nodup) (i : Nat) (h : i < L.length) : ((L.take i).reverse).contains (L[i]'h) = false := by
  rw [← Bool.not_eq_true, List.contains_iff_mem, List.mem_reverse]
  intro hm
  obtain ⟨j, hj, e⟩ := List.mem_iff_getElem.1 hm
  rw [List.length_take] at hj
  rw [List.getElem_take] at e
  have := (List.getElem_inj hn).1 e
  omega
theorem take_no {L : List Int} (hn : L.Nodup) (i : Nat) (h : i < L.length) : L[i]'h ∉ L.take i := fun hm => by
  have := seen_no hn i h
  rw [← Bool.not_eq_true, List.contains_iff_mem, List.mem_reverse] at this
  exact this hm
set_option maxRecDepth 100000 in
set_option maxHeartbeats 4000000 in
theorem AnyOrder_law (T : Int) (A : Option Addr) (n c : Nat) (A2 : Option Addr) (n2 c2 : Nat) (Aw : Option Addr) (nw cw : Nat) (Ab : Option Addr) (nb cb : Nat) (u : Int) (w : World) (h1 : RowP 4 eG (fun g : Gm => W2 g.1 ∧ W2 g.2) w A n c) (h2 : RowP 2 eP W2 w A2 n2 c2) (h3 : RowQ 1 eB (fun _ => True) w Aw nw) (h4 : RowQ 1 eU U8 w Ab nb) (hu : U8 u) : Calls Try.prog 10 #[Brv T A n c A2 n2 c2, .slice Aw nw cw, .slice Ab nb cb, .int .u8 u] w (Back (.bool true) w) := by
 refine J_enter (fun _ => False) (vs := [Brv T A n c A2 n2 c2, .slice Aw nw cw, .slice Ab nb cb, .int .u8 u]) (k := 280) (l := [(0, Brv T A n c A2 n2 c2), (1, .slice Aw nw cw), (2, .slice Ab nb cb), (3, .int .u8 u)]) Try.func10 rfl rfl Try.ntmps10 rfl rfl (Wd.start _) ?_
 refine J_seq ?_
 refine J_reg ?_
 refine JL_op (wn0 rfl) (ow_box (vs := [_, _, _]) rfl rfl rfl rfl rfl) (fun b4 hb4 => ?_)
 refine JN rfl rfl rfl rfl rfl ?_
 refine JL_nil ?_
 refine JQ_then_n ?_
 refine J_seq ?_
 refine J_seq ?_
 refine J_reg ?_
 refine JV (rv_agg (cs := [_, _, _]) rfl rfl ag_25 sz_25 (by repeat constructor) (by rfl)) ?_
 refine JL_op (wn0 rfl) (ow_callB (ec_fn rfl rfl cf_13) rfl rfl (fun w hw => (by have := great13 T (List.replicate n ((0, 0), (0, 0))) (List.replicate n2 (0, 0)) w A A2 c c2; simp only [List.length_replicate] at this; exact this))) (fun _ _ => ?_)
 refine JL_bool (fun h29 => ?_) (fun h29 => ?_)
 ·refine JL_nil ?_
  refine JQ_then_n ?_
  refine J_yes rfl rfl ?_
  refine J_seq ?_
  refine J_keep (l' := []) trivial ?_
  refine J_reg ?_
  refine JL_op (wn0 rfl) (ow_callB (ec_fn rfl rfl cf_14) rfl rfl (fun w hw => awake14 w)) (fun _ _ => ?_)
  refine JN rfl rfl rfl rfl rfl ?_
  refine JL_nil ?_
  refine JQ_then_n ?_
  refine J_ret ?_
  refine JQ_then_r ?_
  refine JR_one rfl (rr_tmp rfl) ?_
  intro w' hw
  exact ⟨rfl, hw.bel⟩
 ·refine JL_nil ?_
  refine JQ_then_n ?_
  refine J_no rfl rfl ?_
  refine J_skip ?_
  refine JQ_then_n ?_
  refine J_seq ?_
  have hgr : n ≤ 70 ∧ n2 ≤ 20 := by
    unfold grB at h29
    simp only [List.length_replicate, Bool.or_eq_false_iff, decide_eq_false_iff_not] at h29
    omega
  obtain ⟨G, rfl, hG, hG2⟩ := h1 (by omega)
  obtain ⟨R, rfl, hR, hR2⟩ := h2 (by omega)
  obtain ⟨-, ws, rfl, hAw, -⟩ := h3
  obtain ⟨hm2, bs, rfl, hA2, hU⟩ := h4
  rcases hcb : cbB T G R with _ | _
  ·refine J_keep (l' := [(1, _), (2, _), (3, _), (4, _)]) ⟨rfl, rfl, rfl, rfl, trivial⟩ ?_
   refine J_reg ?_
   refine JV (rv_agg (cs := [_, _, _]) rfl rfl ag_25 sz_25 (by repeat constructor) (by rfl)) ?_
   refine JL_op (wn0 rfl) (ow_callB (ec_fn rfl rfl cf_34) rfl rfl (fun w hw => New34_no T G R w A A2 c c2 (hG.up EG hw.bel) (hR.up EP hw.bel) hG2 hR2 hcb)) (fun _ _ => ?_)

   refine JM rfl rfl rfl rfl rfl ?_
   refine JP (rp_run1 (f := fun u => Instr.extract u 0) (fun _ => rfl) rfl (fun _ => rfl)) ?_
   refine JP (rp_run1 (f := fun u => Instr.extract u 1) (fun _ => rfl) rfl (fun _ => rfl)) ?_
   refine JN rfl rfl rfl rfl rfl ?_
   refine JN rfl rfl rfl rfl rfl ?_
   refine JL_nil ?_
   refine JQ_then_n ?_
   refine J_seq ?_
   refine J_keep (l' := [(1, _), (2, _), (3, _), (4, _), (9, _), (10, _)]) ⟨rfl, rfl, rfl, rfl, rfl, rfl, trivial⟩ ?_
   refine J_reg ?_
   refine JV (rv_agg (cs := [_, _, _]) rfl rfl ag_25 sz_25 (by repeat constructor) (by rfl)) ?_
   refine JL_op (wn0 rfl) (ow_callB (ec_fn rfl rfl cf_34) rfl rfl (fun w hw => New34_no T G R w A A2 c c2 (hG.up EG hw.bel) (hR.up EP hw.bel) hG2 hR2 hcb)) (fun _ _ => ?_)

   refine JM rfl rfl rfl rfl rfl ?_
   refine JP (rp_run1 (f := fun u => Instr.extract u 0) (fun _ => rfl) rfl (fun _ => rfl)) ?_
   refine JP (rp_run1 (f := fun u => Instr.extract u 1) (fun _ => rfl) rfl (fun _ => rfl)) ?_
   refine JN rfl rfl rfl rfl rfl ?_
   refine JN rfl rfl rfl rfl rfl ?_
   refine JL_nil ?_
   refine JQ_then_n ?_
   refine J_seq ?_
   refine J_keep (l' := [(1, _), (2, _), (3, _), (4, _), (9, _), (10, _), (11, _), (12, _)]) ⟨rfl, rfl, rfl, rfl, rfl, rfl, rfl, rfl, trivial⟩ ?_
   refine J_reg ?_
   refine JV (rv_agg (cs := [_, _, _]) rfl rfl ag_25 sz_25 (by repeat constructor) (by rfl)) ?_
   refine JL_op (wn0 rfl) (ow_callB (ec_fn rfl rfl cf_34) rfl rfl (fun w hw => New34_no T G R w A A2 c c2 (hG.up EG hw.bel) (hR.up EP hw.bel) hG2 hR2 hcb)) (fun _ _ => ?_)

   refine JM rfl rfl rfl rfl rfl ?_
   refine JP (rp_run1 (f := fun u => Instr.extract u 0) (fun _ => rfl) rfl (fun _ => rfl)) ?_
   refine JP (rp_run1 (f := fun u => Instr.extract u 1) (fun _ => rfl) rfl (fun _ => rfl)) ?_
   refine JN rfl rfl rfl rfl rfl ?_
   refine JN rfl rfl rfl rfl rfl ?_
   refine JL_nil ?_
   refine JQ_then_n ?_
   refine J_seq ?_
   refine J_seq ?_
   refine J_keep (l' := [(1, _), (2, _), (3, _), (4, _), (9, _), (10, _), (11, _), (12, _), (13, _), (14, _)]) ⟨rfl, rfl, rfl, rfl, rfl, rfl, rfl, rfl, rfl, rfl, trivial⟩ ?_
   refine J_reg ?_
   refine JM rfl rfl rfl rfl rfl ?_
   refine JP (rp2 rfl rfl (fun ρ hx hy w => ex_neq29 rfl hx hy)) ?_
   refine JL_decT (by omega) ?_
   refine JM rfl rfl rfl rfl rfl ?_
   refine JF ?_
   refine JF ?_
   refine JP (rp_pickT rfl rfl rfl) ?_
   refine JM rfl rfl rfl rfl rfl ?_
   refine JF ?_
   refine JF ?_
   refine JP (rp_pickT rfl rfl rfl) ?_
   refine JM rfl rfl rfl rfl rfl ?_
   refine JF ?_
   refine JF ?_
   refine JP (rp_pickT rfl rfl rfl) ?_
   refine JM rfl rfl rfl rfl rfl ?_
   refine JF ?_
   refine JF ?_
   refine JP (rp_pickT rfl rfl rfl) ?_
   refine JM rfl rfl rfl rfl rfl ?_
   refine JF ?_
   refine JF ?_
   refine JP (rp_pickT rfl rfl rfl) ?_
   refine JL_nil ?_
   refine JQ_then_n ?_
   refine J_yes rfl rfl ?_
   refine J_seq ?_
   refine J_keep (l' := [(4, _)]) ⟨rfl, trivial⟩ ?_
   refine J_reg ?_
   refine JV (rv_agg (cs := [_, _, _]) rfl rfl ag_25 sz_25 (by repeat constructor) (by rfl)) ?_
   refine JL_op (wn0 rfl) (ow_callB (ec_fn rfl rfl cf_18) rfl rfl (fun w hw => (by have := Check18 T G R w A A2 c c2 (hG.up EG hw.bel) (hR.up EP hw.bel) (by omega) (by omega); rw [ck_cb, hcb] at this; exact this))) (fun _ _ => ?_)
   refine JP (rp1 rfl (fun ρ hx w => ex_not rfl hx)) ?_
   refine JM rfl rfl rfl rfl rfl ?_
   refine JL_op (wn_g rfl rfl rfl rfl) (ow_callB (ec_fn rfl rfl cf_14) rfl rfl (fun w hw => awake14 w)) (fun _ _ => ?_)
   refine JP (rp_pickT rfl rfl rfl) ?_
   refine JN rfl rfl rfl rfl rfl ?_
   refine JL_nil ?_
   refine JQ_then_n ?_
   refine J_ret ?_
   refine JQ_then_r ?_
   refine JR_one rfl (rr_tmp rfl) ?_
   intro w' hw
   exact ⟨rfl, hw.bel⟩
  ·have hbo := (cbB_iff _ _ _).1 hcb
   have hbt := hbo.t
   have hbg := hbo.g
   have hbr := hbo.r
   obtain ⟨N, hN⟩ := Int.eq_ofNat_of_zero_le (show 0 ≤ T by omega)
   subst hN
   refine J_keep (l' := [(1, _), (2, _), (3, _), (4, _)]) ⟨rfl, rfl, rfl, rfl, trivial⟩ ?_
   refine J_reg ?_
   refine JV (rv_agg (cs := [_, _, _]) rfl rfl ag_25 sz_25 (by repeat constructor) (by rfl)) ?_
   refine JL_op (wn0 rfl) (ow_callR (ec_fn rfl rfl cf_34) rfl rfl (fun _ => rfl) (fun w hw => New34 (N : Nat) G R w A A2 c c2 (hG.up EG hw.bel) (hR.up EP hw.bel) hG2 hR2 hcb ⟨by omega, by omega⟩)) (fun t33 _ => ?_)
   dsimp only [PdG, List.cons_append, List.nil_append]
   refine JM rfl rfl rfl rfl rfl ?_
   refine JP (rp_run1 (f := fun u => Instr.extract u 0) (fun _ => rfl) rfl (fun _ => rfl)) ?_
   refine JP (rp_run1 (f := fun u => Instr.extract u 1) (fun _ => rfl) rfl (fun _ => rfl)) ?_
   refine JN rfl rfl rfl rfl rfl ?_
   refine JN rfl rfl rfl rfl rfl ?_
   refine JL_nil ?_
   refine JQ_then_n ?_
   refine J_seq ?_
   refine J_keep (l' := [(1, _), (2, _), (3, _), (4, _), (9, _), (10, _)]) ⟨rfl, rfl, rfl, rfl, rfl, rfl, trivial⟩ ?_
   refine J_reg ?_
   refine JV (rv_agg (cs := [_, _, _]) rfl rfl ag_25 sz_25 (by repeat constructor) (by rfl)) ?_
   refine JL_op (wn0 rfl) (ow_callR (ec_fn rfl rfl cf_34) rfl rfl (fun _ => rfl) (fun w hw => New34 (N : Nat) G R w A A2 c c2 (hG.up EG hw.bel) (hR.up EP hw.bel) hG2 hR2 hcb ⟨by omega, by omega⟩)) (fun t38 _ => ?_)
   dsimp only [PdG, List.cons_append, List.nil_append]
   refine JM rfl rfl rfl rfl rfl ?_
   refine JP (rp_run1 (f := fun u => Instr.extract u 0) (fun _ => rfl) rfl (fun _ => rfl)) ?_
   refine JP (rp_run1 (f := fun u => Instr.extract u 1) (fun _ => rfl) rfl (fun _ => rfl)) ?_
   refine JN rfl rfl rfl rfl rfl ?_
   refine JN rfl rfl rfl rfl rfl ?_
   refine JL_nil ?_
   refine JQ_then_n ?_
   refine J_seq ?_
   refine J_keep (l' := [(1, _), (2, _), (3, _), (4, _), (9, _), (10, _), (11, _), (12, _)]) ⟨rfl, rfl, rfl, rfl, rfl, rfl, rfl, rfl, trivial⟩ ?_
   refine J_reg ?_
   refine JV (rv_agg (cs := [_, _, _]) rfl rfl ag_25 sz_25 (by repeat constructor) (by rfl)) ?_
   refine JL_op (wn0 rfl) (ow_callR (ec_fn rfl rfl cf_34) rfl rfl (fun _ => rfl) (fun w hw => New34 (N : Nat) G R w A A2 c c2 (hG.up EG hw.bel) (hR.up EP hw.bel) hG2 hR2 hcb ⟨by omega, by omega⟩)) (fun t43 _ => ?_)
   dsimp only [PdG, List.cons_append, List.nil_append]
   refine JM rfl rfl rfl rfl rfl ?_
   refine JP (rp_run1 (f := fun u => Instr.extract u 0) (fun _ => rfl) rfl (fun _ => rfl)) ?_
   refine JP (rp_run1 (f := fun u => Instr.extract u 1) (fun _ => rfl) rfl (fun _ => rfl)) ?_
   refine JN rfl rfl rfl rfl rfl ?_
   refine JN rfl rfl rfl rfl rfl ?_
   refine JL_nil ?_
   refine JQ_then_n ?_
   refine J_seq ?_
   refine J_seq ?_
   refine J_keep (l' := [(1, _), (2, _), (3, _), (4, _), (9, _), (10, _), (11, _), (12, _), (13, _), (14, _)]) ⟨rfl, rfl, rfl, rfl, rfl, rfl, rfl, rfl, rfl, rfl, trivial⟩ ?_
   refine J_reg ?_
   refine JM rfl rfl rfl rfl rfl ?_
   refine JP (rp2 rfl rfl (fun ρ hx hy w => ex_neq29 rfl hx hy)) ?_
   refine JL_decF (fun h => h rfl) ?_
   refine JM rfl rfl rfl rfl rfl ?_
   refine JPg (rp_move rfl rfl) ?_
   refine JPg (rp2 rfl rfl (fun ρ hx hy w => ex_neq29 rfl hx hy)) ?_
   refine JL_decF (fun h => h rfl) ?_
   refine JP (rp_pickF rfl rfl rfl) ?_
   refine JM rfl rfl rfl rfl rfl ?_
   refine JPg (rp_move rfl rfl) ?_
   refine JPg (rp2 rfl rfl (fun ρ hx hy w => ex_neq29 rfl hx hy)) ?_
   refine JL_decF (fun h => h rfl) ?_
   refine JP (rp_pickF rfl rfl rfl) ?_
   refine JM rfl rfl rfl rfl rfl ?_
   refine JPg (rp_move rfl rfl) ?_
   refine JPg (rp2 rfl rfl (fun ρ hx hy w => ex_eqlPtr rfl hx hy)) ?_
   refine JL_boolF rfl ?_
   refine JP (rp_pickF rfl rfl rfl) ?_
   refine JM rfl rfl rfl rfl rfl ?_
   refine JPg (rp_move rfl rfl) ?_
   refine JPg (rp2 rfl rfl (fun ρ hx hy w => ex_eqlPtr rfl hx hy)) ?_
   refine JL_boolF rfl ?_
   refine JP (rp_pickF rfl rfl rfl) ?_
   refine JM rfl rfl rfl rfl rfl ?_
   refine JPg (rp_move rfl rfl) ?_
   refine JPg (rp2 rfl rfl (fun ρ hx hy w => ex_eqlPtr rfl hx hy)) ?_
   refine JL_boolF rfl ?_
   refine JP (rp_pickF rfl rfl rfl) ?_
   refine JL_nil ?_
   refine JQ_then_n ?_
   refine J_no rfl rfl ?_
   refine J_skip ?_
   refine JQ_then_n ?_
   refine J_seq ?_
   refine J_own0 3 1 ?_
   simp only [← mSet_nil (wonN ws)]
   refine J_keep (l' := [(1, _), (2, _), (3, _), (4, _), (9, _), (11, _), (13, _)]) ⟨rfl, rfl, rfl, rfl, rfl, rfl, rfl, trivial⟩ ?_
   refine J_reg ?_
   refine JN rfl rfl rfl rfl rfl ?_
   refine JL_nil ?_
   refine JQ_then_n ?_
   refine J_seq ?_
   refine J_seq ?_
   refine J_reg ?_
   refine JN rfl rfl rfl rfl rfl ?_
   refine JL_nil ?_
   refine JQ_then_n ?_
   refine J_block ?_
   refine J_loop (T := Nat × Option Addr × Nat × List Int) (fun q => q.1 ≤ G.length ∧ q.2.2.2.length = q.1 ∧ q.2.2.2.Perm (nums q.1)) (fun q => [(1, .slice Aw ws.length cw), (4, .pointer (some ⟨b4, 0, none⟩)), (9, .pointer (some ⟨t33.bp, 0, none⟩)), (13, .pointer (some ⟨t43.bp, 0, none⟩)), (11, .pointer (some ⟨t38.bp, 0, none⟩)), (2, .slice Ab bs.length cb), (3, .int .u8 u), (15, .slice q.2.1 q.2.2.2.length q.2.2.1), (16, .int .i64 (q.1 : Nat))]) (fun q => [cellB b4 [.int .i64 (N : Nat), .slice A G.length c, .slice A2 R.length c2] 25, cellB t33.bp [.int .i64 (N : Nat), .slice t33.A G.length t33.c, .slice t33.A2 R.length t33.c2, .map (some t33.bm)] 86, ownB 90 4 t33.A G.length t33.c (G.flatMap eG), ownB 89 2 t33.A2 R.length t33.c2 (R.flatMap eP), resB t33.bm 0 (mSet (wonN ws) ([])), cellB t38.bp [.int .i64 (N : Nat), .slice t38.A G.length t38.c, .slice t38.A2 R.length t38.c2, .map (some t38.bm)] 86, ownB 90 4 t38.A G.length t38.c (G.flatMap eG), ownB 89 2 t38.A2 R.length t38.c2 (R.flatMap eP), resB t38.bm 0 (mSet (wonN ws) ([])), cellB t43.bp [.int .i64 (N : Nat), .slice t43.A G.length t43.c, .slice t43.A2 R.length t43.c2, .map (some t43.bm)] 86, ownB 90 4 t43.A G.length t43.c (G.flatMap eG), ownB 89 2 t43.A2 R.length t43.c2 (R.flatMap eP), resB t43.bm 0 (mSet (wonN ws) ([])), ownB 3 1 q.2.1 (q.2.2.2).length q.2.2.1 ((q.2.2.2).flatMap eI)]) (fun q => G.length - q.1) (0, none, 0, []) ⟨Nat.zero_le _, rfl, List.Perm.refl _⟩ ⟨rfl, rfl, rfl, rfl, rfl, rfl, rfl, rfl, rfl, trivial⟩ (by repeat constructor) ?_
   rintro ⟨k, A15, c15, O⟩ ⟨hk, hO, hpm⟩
   dsimp only at hk hO hpm ⊢
   refine J_seq ?_
   refine J_seq ?_
   refine J_reg ?_
   refine JM rfl rfl rfl rfl rfl ?_
   refine JP (rp_fieldC (off' := 1) rfl rfl fa_25_1 rfl) ?_
   refine JV (rv_cell rfl rfl ag_22 (by repeat constructor) (by rfl)) ?_
   refine JP (rp1 rfl (fun ρ hx w => ex_len (A := _) (c := _) rfl Try.underlying22 hx)) ?_
   refine JP (rp2 rfl rfl (fun ρ hx hy w => ex_lssD rfl hx hy)) ?_
   refine JL_dec (fun h78 => ?_) (fun h78 => ?_)
   ·refine JL_nil ?_
    refine JQ_then_n ?_
    refine J_yes rfl rfl ?_
    refine J_skip ?_
    refine JQ_then_n ?_
    refine J_seq ?_
    refine J_block ?_
    refine J_seq ?_
    refine J_keep (l' := [(1, _), (2, _), (3, _), (4, _), (9, _), (11, _), (13, _), (15, _), (16, _)]) ⟨rfl, rfl, rfl, rfl, rfl, rfl, rfl, rfl, rfl, trivial⟩ ?_
    refine J_reg ?_
    refine JN rfl rfl rfl rfl rfl ?_
    refine JL_nil ?_
    refine JQ_then_n ?_
    refine J_cut (T := Nat) (fun q => q ≤ O.length) (fun q => [(1, .slice Aw ws.length cw), (4, .pointer (some ⟨b4, 0, none⟩)), (9, .pointer (some ⟨t33.bp, 0, none⟩)), (13, .pointer (some ⟨t43.bp, 0, none⟩)), (11, .pointer (some ⟨t38.bp, 0, none⟩)), (2, .slice Ab bs.length cb), (3, .int .u8 u), (15, .slice A15 O.length c15), (16, .int .i64 (k : Nat)), (17, .int .i64 (q : Nat))]) (fun q => [cellB b4 [.int .i64 (N : Nat), .slice A G.length c, .slice A2 R.length c2] 25, cellB t33.bp [.int .i64 (N : Nat), .slice t33.A G.length t33.c, .slice t33.A2 R.length t33.c2, .map (some t33.bm)] 86, ownB 90 4 t33.A G.length t33.c (G.flatMap eG), ownB 89 2 t33.A2 R.length t33.c2 (R.flatMap eP), resB t33.bm 0 (mSet (wonN ws) ([])), cellB t38.bp [.int .i64 (N : Nat), .slice t38.A G.length t38.c, .slice t38.A2 R.length t38.c2, .map (some t38.bm)] 86, ownB 90 4 t38.A G.length t38.c (G.flatMap eG), ownB 89 2 t38.A2 R.length t38.c2 (R.flatMap eP), resB t38.bm 0 (mSet (wonN ws) ([])), cellB t43.bp [.int .i64 (N : Nat), .slice t43.A G.length t43.c, .slice t43.A2 R.length t43.c2, .map (some t43.bm)] 86, ownB 90 4 t43.A G.length t43.c (G.flatMap eG), ownB 89 2 t43.A2 R.length t43.c2 (R.flatMap eP), resB t43.bm 0 (mSet (wonN ws) ([])), ownB 3 1 A15 (O).length c15 ((O).flatMap eI)]) ?_ ?_
    ·refine J_seq ?_
     refine J_reg ?_
     refine JM rfl rfl rfl rfl rfl ?_
     refine JP (rp1 rfl (fun ρ hx w => ex_len (A := _) (c := _) rfl Try.underlying54 hx)) ?_
     refine JP (rp2 rfl rfl (fun ρ hx hy w => ex_gtrD rfl hx hy)) ?_
     refine JL_dec (fun h83 => ?_) (fun h83 => ?_)
     ·refine JL_nil ?_
      refine JQ_then_n ?_
      refine J_yes rfl rfl ?_
      obtain ⟨bb, pp, rfl, hh2⟩ := hA2 (by intro e; subst e; simp at h83)
      have hmd : k % bs.length < bs.length := Nat.mod_lt _ (by omega)
      obtain ⟨v, hv8⟩ : ∃ v, bs[k % bs.length]'hmd = v := ⟨_, rfl⟩
      have hvU : U8 v := by rw [← hv8]; exact hU _ (List.getElem_mem _)
      have hvU' := hvU
      unfold U8 at hvU'
      have hva : v % ((O.length : Int) + 1) = (((v % ((O.length : Int) + 1)).toNat : Nat) : Int) := (Int.toNat_of_nonneg (Int.emod_nonneg _ (by omega))).symm
      have hvb := Int.emod_lt_of_pos v (show 0 < (O.length : Int) + 1 by omega)
      refine J_keep (l' := [(1, _), (2, _), (3, _), (4, _), (9, _), (11, _), (13, _), (15, _), (16, _)]) ⟨rfl, rfl, rfl, rfl, rfl, rfl, rfl, rfl, rfl, trivial⟩ ?_
      refine J_reg ?_
      refine JM rfl rfl rfl rfl rfl ?_
      refine JM rfl rfl rfl rfl rfl ?_
      refine JM rfl rfl rfl rfl rfl ?_
      refine JP (rp1 rfl (fun ρ hx w => ex_len (A := _) (c := _) rfl Try.underlying54 hx)) ?_
      refine JP (rp2 rfl rfl (fun ρ hx hy w => ex_rem rfl hx hy (by omega) (by omega))) ?_
      refine JP (rp2 rfl rfl (fun ρ hx hy w => ex_indexI (k := (k % bs.length)) rfl hx hy rfl Try.underlying54 sz_5 (by omega))) ?_
      refine JV (rv_hold rfl rfl ag_5 (fun h => h) hh2 (by omega) (by omega) (by rw [hv8]; rfl)) ?_
      refine JP (rp1 rfl (fun ρ hx w => ex_conv8 rfl hx hvU)) ?_
      refine JM rfl rfl rfl rfl rfl ?_
      refine JP (rp1 rfl (fun ρ hx w => ex_len (A := _) (c := _) rfl Try.underlying26 hx)) ?_
      refine JP (rp2 rfl rfl (fun ρ hx hy w => ex_add rfl hx hy (by omega))) ?_
      refine JP (rp2 rfl rfl (fun ρ hx hy w => ex_rem rfl hx hy (by omega) (by omega))) ?_
      refine JN rfl rfl rfl rfl rfl ?_
      refine JL_nil ?_
      exact JQ_cut (v % ((O.length : Int) + 1)).toNat (by omega) ⟨rfl, rfl, rfl, rfl, rfl, rfl, rfl, rfl, rfl, (congrArg (fun z => some (Value.int .i64 z)) hva), trivial⟩ (by repeat constructor)
     ·refine JL_nil ?_
      refine JQ_then_n ?_
      refine J_no rfl rfl ?_
      refine J_skip ?_
      exact JQ_cut 0 (Nat.zero_le _) ⟨rfl, rfl, rfl, rfl, rfl, rfl, rfl, rfl, rfl, rfl, trivial⟩ (by repeat constructor)
    ·rintro at' hat
     refine J_seq ?_
     refine J_fact (fun hf => ?_)
     have hcap := own_cap (A := A15) (ty := 3) (k := 1) (m := O.length) (c := c15) hf (by repeat constructor)
     have hor := own_or (A := A15) (ty := 3) (k := 1) (m := O.length) (c := c15) hf (by repeat constructor)
     refine J_reg ?_
     refine JL_op (wn0 rfl) (ow_sliceC (ty := 3) rfl rfl rfl rfl rfl (fun _ => by kernel_rfl)) (fun b96 hb96 => ?_)
     refine JL_asOwn (b := b96) (ty := 3) (kk := 1) (m := 0) (by repeat constructor) rfl (by omega) ?_
     refine JM rfl rfl rfl rfl rfl ?_
     refine JM rfl rfl rfl rfl rfl ?_
     refine JP (rp_sliceTo (k := at') rfl rfl rfl Try.underlying26 sz_3 rfl (by omega)) ?_
     refine JL_opS (wn0 rfl) (ow_appX (L := ([] : List Int)) (M := O.take at') EI (by decide) Try.underlying26 Try.info3 rfl (by decide) sz_3 rfl rfl rfl rfl rfl (by rw [List.length_take]; omega) (fun e => by rcases hor with h | ⟨g, h⟩; exact h.2.2; rw [h] at e; cases e) (Nat.le_refl 0) (fun w hw => (Arr.of_own EI (hw.ok (ownB 3 1 A15 (O).length c15 ((O).flatMap eI)) (by repeat constructor)).1 (by omega)).takeC (by omega)) (by rw [List.length_take, List.length_nil]; omega) (by intro A c; repeat constructor)) (fun A100 c100 => ?_)
     simp only [List.nil_append]
     have htk : (O.take at').length ≤ 70 := by rw [List.length_take]; omega
     refine JN rfl rfl rfl rfl rfl ?_
     refine JL_nil ?_
     refine JQ_then_n ?_
     refine J_seq ?_
     refine J_keep (l' := [(1, _), (2, _), (3, _), (4, _), (9, _), (11, _), (13, _), (15, _), (16, _), (17, _), (18, _)]) ⟨rfl, rfl, rfl, rfl, rfl, rfl, rfl, rfl, rfl, rfl, rfl, trivial⟩ ?_
     refine J_reg ?_
     refine JM rfl rfl rfl rfl rfl ?_
     refine JM rfl rfl rfl rfl rfl ?_
     refine JL_op (wn0 rfl) (ow_sliceC (vs := [_]) (ty := 3) rfl rfl (by rfl) rfl rfl (fun _ => by kernel_rfl)) (fun b103 hb103 => ?_)
     refine JL_opS (wn0 rfl) (ow_app1 EI (by decide) (((k : Nat) : Int)) Try.underlying26 Try.info3 rfl (by decide) rfl rfl rfl rfl rfl (by repeat constructor) (by rfl) (by omega) (by intro A c; repeat constructor)) (fun A104 c104 => ?_)
     refine JN rfl rfl rfl rfl rfl ?_
     refine JL_nil ?_
     refine JQ_then_n ?_
     refine J_keep (l' := [(1, _), (2, _), (3, _), (4, _), (9, _), (11, _), (13, _), (15, _), (16, _), (17, _), (18, _)]) ⟨rfl, rfl, rfl, rfl, rfl, rfl, rfl, rfl, rfl, rfl, rfl, trivial⟩ ?_
     refine J_reg ?_
     refine JM rfl rfl rfl rfl rfl ?_
     refine JM rfl rfl rfl rfl rfl ?_
     refine JM rfl rfl rfl rfl rfl ?_
     refine JP (rp_sliceFrom (k := at') rfl rfl rfl Try.underlying26 sz_3 rfl (by omega)) ?_
     refine JL_fact (fun hf2 => ?_)
     have hcap2 := own_cap (A := A104) (ty := 3) (k := 1) (c := c104) hf2 (by repeat constructor)
     refine JL_opS (wn0 rfl) (ow_appX (L := O.take at' ++ [((k : Nat) : Int)]) (M := O.drop at') EI (by decide) Try.underlying26 Try.info3 rfl (by decide) sz_3 rfl rfl rfl rfl rfl (by rw [List.length_drop]) (fun e => by rcases hor with h | ⟨g, h⟩; omega; rw [h] at e; split at e <;> cases e) hcap2.1 (fun w hw => (Arr.of_own EI (hw.ok (ownB 3 1 A15 (O).length c15 ((O).flatMap eI)) (by repeat constructor)).1 (by omega)).drop (by omega)) (by rw [List.length_append, List.length_take, List.length_drop, List.length_singleton]; omega) (by intro A c; repeat constructor)) (fun A109 c109 => ?_)
     refine JN rfl rfl rfl rfl rfl ?_
     refine JL_nil ?_
     refine JQ_block_n ?_
     refine JQ_then_n ?_
     refine J_keep (l' := [(1, _), (2, _), (3, _), (4, _), (9, _), (11, _), (13, _), (15, _), (16, _)]) ⟨rfl, rfl, rfl, rfl, rfl, rfl, rfl, rfl, rfl, trivial⟩ ?_
     refine J_reg ?_
     refine JM rfl rfl rfl rfl rfl ?_
     refine JP (rp2 rfl rfl (fun ρ hx hy w => ex_add rfl hx hy (by omega))) ?_
     refine JN rfl rfl rfl rfl rfl ?_
     refine JL_nil ?_
     have hlO : (O.take at' ++ [((k : Nat) : Int)] ++ O.drop at').length = k + 1 := by rw [List.length_append, List.length_append, List.length_take, List.length_drop, List.length_singleton]; omega
     exact JQ_round (k + 1, A109, c109, O.take at' ++ [((k : Nat) : Int)] ++ O.drop at') ⟨by dsimp only; omega, hlO, ins_perm hpm⟩ (by dsimp only; omega) ⟨rfl, rfl, rfl, rfl, rfl, rfl, rfl, rfl, (congrArg some (by go_num)), trivial⟩ (by repeat constructor)
   ·refine JL_nil ?_
    refine JQ_then_n ?_
    refine J_no rfl rfl ?_
    refine J_exit ?_
    refine JQ_then_x ?_
    refine JQ_then_x ?_
    refine JQ_block_y rfl ?_
    refine JQ_then_n ?_
    refine J_seq ?_
    obtain rfl : k = G.length := by omega
    have hOn : O.Nodup := hpm.nodup_iff.2 (nums_nd _)
    have hOr : ∀ x ∈ O, 0 ≤ x ∧ x < ((G.length : Nat) : Int) := fun x hx => nums_mem.1 (hpm.mem_iff.1 hx)
    have hvU' := hu
    unfold U8 at hvU'
    obtain ⟨nn, hnn⟩ := Int.eq_ofNat_of_zero_le (Int.emod_nonneg u (show (O.length : Int) + 1 ≠ 0 by omega))
    have hvb := Int.emod_lt_of_pos u (show 0 < (O.length : Int) + 1 by omega)
    have hnO : nn ≤ O.length := by omega
    refine J_keep (l' := [(1, _), (3, _), (4, _), (9, _), (11, _), (13, _), (15, _)]) ⟨rfl, rfl, rfl, rfl, rfl, rfl, rfl, trivial⟩ ?_
    refine J_reg ?_
    refine JM rfl rfl rfl rfl rfl ?_
    refine JP (rp1 rfl (fun ρ hx w => ex_conv8 rfl hx hu)) ?_
    refine JM rfl rfl rfl rfl rfl ?_
    refine JP (rp1 rfl (fun ρ hx w => ex_len (A := _) (c := _) rfl Try.underlying26 hx)) ?_
    refine JP (rp2 rfl rfl (fun ρ hx hy w => ex_add rfl hx hy (by omega))) ?_
    refine JP (rp2 rfl rfl (fun ρ hx hy w => ex_rem rfl hx hy (by omega) (by omega))) ?_
    refine JN rfl rfl rfl rfl rfl ?_
    refine JL_nil ?_
    refine JQ_then_n ?_
    refine J_seq ?_
    rw [hnn]
    refine J_fact (fun hf => ?_)
    have hcap := own_cap (A := A15) (ty := 3) (k := 1) (m := O.length) (c := c15) hf (by repeat constructor)
    have hor := own_or (A := A15) (ty := 3) (k := 1) (m := O.length) (c := c15) hf (by repeat constructor)
    refine J_keep (l' := [(1, _), (4, _), (9, _), (11, _), (13, _), (15, _), (19, _)]) ⟨rfl, rfl, rfl, rfl, rfl, rfl, rfl, trivial⟩ ?_
    refine J_reg ?_
    refine JL_op (wn0 rfl) (ow_sliceC (ty := 3) rfl rfl rfl rfl rfl (fun _ => by kernel_rfl)) (fun b116 hb116 => ?_)
    refine JL_asOwn (b := b116) (ty := 3) (kk := 1) (m := 0) (by repeat constructor) rfl (by omega) ?_
    refine JM rfl rfl rfl rfl rfl ?_
    refine JM rfl rfl rfl rfl rfl ?_
    refine JP (rp_sliceTo (k := nn) rfl rfl rfl Try.underlying26 sz_3 rfl (by omega)) ?_
    refine JL_opS (wn0 rfl) (ow_appX (L := ([] : List Int)) (M := O.take nn) EI (by decide) Try.underlying26 Try.info3 rfl (by decide) sz_3 rfl rfl rfl rfl rfl (by rw [List.length_take]; omega) (fun e => by rcases hor with h | ⟨g, h⟩; exact h.2.2; rw [h] at e; cases e) (Nat.le_refl 0) (fun w hw => (Arr.of_own EI (hw.ok (ownB 3 1 A15 (O).length c15 ((O).flatMap eI)) (by repeat constructor)).1 (by omega)).takeC (by omega)) (by rw [List.length_take, List.length_nil]; omega) (by intro A c; repeat constructor)) (fun A120 c120 => ?_)
    simp only [List.nil_append]
    refine JN rfl rfl rfl rfl rfl ?_
    refine JL_nil ?_
    refine JQ_then_n ?_
    refine J_seq ?_
    refine J_seq ?_
    obtain ⟨gO, rfl⟩ : ∃ g, A15 = some ⟨g, 0, none⟩ := own_some (A := A15) (ty := 3) (k := 1) (m := O.length) hf (by repeat constructor) (by omega)
    have hcl := List.length_take (i := nn) (l := O)
    refine J_keep (l' := [(1, _), (4, _), (9, _), (11, _), (13, _), (15, _), (19, _), (20, _)]) ⟨rfl, rfl, rfl, rfl, rfl, rfl, rfl, rfl, trivial⟩ ?_
    refine J_reg ?_
    refine JN rfl rfl rfl rfl rfl ?_
    refine JL_nil ?_
    refine JQ_then_n ?_
    refine J_block ?_
    refine J_loop (T := Nat) (fun i => i ≤ nn) (fun i => [(1, .slice Aw ws.length cw), (4, .pointer (some ⟨b4, 0, none⟩)), (9, .pointer (some ⟨t33.bp, 0, none⟩)), (13, .pointer (some ⟨t43.bp, 0, none⟩)), (11, .pointer (some ⟨t38.bp, 0, none⟩)), (15, .slice (some ⟨gO, 0, none⟩) O.length c15), (19, .int .i64 (nn : Nat)), (20, .slice A120 (O.take nn).length c120), (21, .int .i64 (i : Nat))]) (fun i => [cellB b4 [.int .i64 (N : Nat), .slice A G.length c, .slice A2 R.length c2] 25, cellB t33.bp [.int .i64 (N : Nat), .slice t33.A G.length t33.c, .slice t33.A2 R.length t33.c2, .map (some t33.bm)] 86, ownB 90 4 t33.A G.length t33.c (G.flatMap eG), ownB 89 2 t33.A2 R.length t33.c2 (R.flatMap eP), resB t33.bm i (mSet (wonN ws) (O.take i)), cellB t38.bp [.int .i64 (N : Nat), .slice t38.A G.length t38.c, .slice t38.A2 R.length t38.c2, .map (some t38.bm)] 86, ownB 90 4 t38.A G.length t38.c (G.flatMap eG), ownB 89 2 t38.A2 R.length t38.c2 (R.flatMap eP), resB t38.bm i (mSet (wonN ws) (((O.take nn).reverse).take i)), cellB t43.bp [.int .i64 (N : Nat), .slice t43.A G.length t43.c, .slice t43.A2 R.length t43.c2, .map (some t43.bm)] 86, ownB 90 4 t43.A G.length t43.c (G.flatMap eG), ownB 89 2 t43.A2 R.length t43.c2 (R.flatMap eP), resB t43.bm 0 (mSet (wonN ws) ([])), ownB 3 1 (some ⟨gO, 0, none⟩) (O).length c15 ((O).flatMap eI), ownB 3 1 A120 (O.take nn).length c120 ((O.take nn).flatMap eI)]) (fun i => nn - i) 0 (Nat.zero_le _) ⟨rfl, rfl, rfl, rfl, rfl, rfl, rfl, rfl, rfl, trivial⟩ (by repeat constructor) ?_
    rintro i hi
    refine J_seq ?_
    refine J_seq ?_
    refine J_reg ?_
    refine JM rfl rfl rfl rfl rfl ?_
    refine JM rfl rfl rfl rfl rfl ?_
    refine JP (rp2 rfl rfl (fun ρ hx hy w => ex_lssD rfl hx hy)) ?_
    refine JL_dec (fun h123 => ?_) (fun h123 => ?_)
    ·refine JL_nil ?_
     refine JQ_then_n ?_
     refine J_yes rfl rfl ?_
     refine J_skip ?_
     refine JQ_then_n ?_
     refine J_seq ?_
     refine J_block ?_
     refine J_seq ?_
     have hlt : i < O.length := by omega
     obtain ⟨x, hx'⟩ := Int.eq_ofNat_of_zero_le (hOr _ (List.getElem_mem hlt)).1
     have hx : O[i]'hlt = ((x : Nat) : Int) := hx'
     have hxr := hOr _ (List.getElem_mem hlt)
     rw [hx] at hxr
     have hO1 : O.take (i + 1) = O.take i ++ [((x : Nat) : Int)] := by rw [List.take_succ_eq_append_getElem hlt, hx]
     have hxn := take_no hOn i hlt
     rw [hx] at hxn
     have hre := mSet_rep (wonN_v ws) (G := G) (S := O.take i) (i := ((x : Nat) : Int)) (by omega) hxn
     rw [Int.toNat_natCast] at hre
     have hwv := wonN_v ws x
     have hltr : i < ((O.take nn).reverse).length := by rw [List.length_reverse, List.length_take]; omega
     have hlty : nn - 1 - i < O.length := by omega
     have hyo := hOr _ (List.getElem_mem hlty)
     obtain ⟨y, hy'⟩ := Int.eq_ofNat_of_zero_le hyo.1
     have hy : O[nn - 1 - i]'hlty = ((y : Nat) : Int) := hy'
     rw [hy] at hyo
     have hyr : ((O.take nn).reverse)[i]'hltr = ((y : Nat) : Int) := by
       rw [List.getElem_reverse, List.getElem_take, ← hy]
       congr 1
       rw [List.length_take]; omega
     have hQ1 : ((O.take nn).reverse).take (i + 1) = ((O.take nn).reverse).take i ++ [((y : Nat) : Int)] := by rw [List.take_succ_eq_append_getElem hltr, hyr]
     have hyn := take_no (L := (O.take nn).reverse) ((List.reverse_perm (O.take nn)).nodup_iff.2 (hOn.sublist (List.take_sublist ..))) i hltr
     rw [hyr] at hyn
     have hry := mSet_rep (wonN_v ws) (G := G) (S := ((O.take nn).reverse).take i) (i := ((y : Nat) : Int)) (by omega) hyn
     rw [Int.toNat_natCast] at hry
     have hwy := wonN_v ws y
     have hltn : i < (O.take nn).length := by rw [List.length_take]; omega
     have hxt : (O.take nn)[i]'hltn = ((x : Nat) : Int) := by rw [List.getElem_take]; exact hx
     have hlyn : nn - 1 - i < (O.take nn).length := by rw [List.length_take]; omega
     have hyt : (O.take nn)[nn - 1 - i]'hlyn = ((y : Nat) : Int) := by rw [List.getElem_take]; exact hy
     have htl : (O.take nn).length = nn := by rw [List.length_take]; omega
     refine J_fact (fun hf => ?_)
     obtain ⟨g120, rfl⟩ := own_some (A := A120) (ty := 3) (k := 1) (m := (O.take nn).length) hf (by repeat constructor) (by omega)
     refine J_drawX [] [4, 9, 21, 29] [ownB 3 1 (some ⟨gO, 0, none⟩) (O).length c15 ((O).flatMap eI), ownB 3 1 (some ⟨g120, 0, none⟩) (O.take nn).length c120 ((O.take nn).flatMap eI)] (by repeat constructor) (by kernel_rfl) ?_
     refine JAP (i := 0) rfl (rp_move rfl rfl) ?_
     refine JAP (i := 1) rfl (rp_move rfl rfl) ?_
     refine JAP (i := 2) rfl (rp_move rfl rfl) ?_
     refine JAP (i := 3) rfl (rp2 rfl rfl (fun ρ hx hy w => ex_indexI (k := i) rfl hx hy rfl Try.underlying26 sz_3 (by omega))) ?_
     refine JAX (i := 4) rfl (rv_ownE (k := 1) (j := i) (L := O.take nn) EI rfl rfl ag_3 (by repeat constructor) (by omega) (by omega) (by rw [hxt]; rfl)) ?_
     refine JAP (i := 5) rfl (rp_move rfl rfl) ?_
     refine JAP (i := 6) rfl (rp_move rfl rfl) ?_
     refine JAP (i := 7) rfl (rp_move rfl rfl) ?_
     refine JAP (i := 8) rfl (rp2 rfl rfl (fun ρ hx hy w => ex_indexI (k := i) rfl hx hy rfl Try.underlying26 sz_3 (by omega))) ?_
     refine JAX (i := 9) rfl (rv_ownE (k := 1) (j := i) (L := O.take nn) EI rfl rfl ag_3 (by repeat constructor) (by omega) (by omega) (by rw [hxt]; rfl)) ?_
     refine JA_one (i := 10) (by kernel_rfl) rfl (wn0 rfl) (ow_callB (ec_fn rfl rfl cf_37) rfl rfl (fun w hw => won37 ws x w Aw cw (fun h => by obtain ⟨b, o, e, hh⟩ := hAw h; exact ⟨b, o, e, hh.up EB hw.bel⟩) (by omega))) trivial (fun _ _ => ?_)
     refine JA_one (i := 11) (by kernel_rfl) rfl (wn0 rfl) (ow_callM (A := resB t33.bm i (mSet (wonN ws) (O.take i))) (T := Unit) (φ := fun _ => True) (V := fun _ => .int .i64 0) (C := fun _ => resB t33.bm (i + 1) (mSet (wonN ws) (O.take i ++ [((x : Nat) : Int)]))) (ec_fn rfl rfl cf_36) rfl rfl rfl (fun _ => rfl) (fun _ => (by repeat constructor)) (fun w hw => by have hp := pd_of (T := (N : Nat)) (G := G) (R := R) (t := t33) (k := i) (m := (mSet (wonN ws) (O.take i))) hw (by unfold PdG; repeat (first | exact Pk.nil _ | (refine Pk.pick (by repeat (first | exact Rm.here _ | apply Rm.there)) ?_))) ⟨by omega, by omega⟩; have := report36 (N : Nat) G R (mSet (wonN ws) (O.take i)) (x : Nat) (wonN ws x) w _ _ _ _ i _ _ hp.1 hp.2.1 hp.2.2 (by omega) (by omega) (by unfold W64; omega) (by unfold W64; omega); rw [hre.2, hre.1] at this; exact this)) ⟨by kernel_rfl, .inr ⟨rfl, (by repeat constructor)⟩⟩ (fun _ _ => ?_)
     refine JAP (i := 12) rfl (rp2 rfl rfl (fun ρ hx hy w => ex_neq29 rfl hx hy)) ?_
     refine JA_decF (fun h => h rfl) ?_
     refine JAP (i := 13) rfl (rp_move rfl rfl) ?_
     refine JA_takeP (i := 14) rfl rfl (by kernel_rfl) (by kernel_rfl) (by kernel_rfl) rfl (wn_g rfl rfl rfl rfl) (rp_move rfl rfl) rfl ?_
     refine JA_takeP (i := 15) rfl rfl (by kernel_rfl) (by kernel_rfl) (by kernel_rfl) rfl (wn_g rfl rfl rfl rfl) (rp_move rfl rfl) rfl ?_
     refine JA_takeP (i := 16) rfl rfl (by kernel_rfl) (by kernel_rfl) (by kernel_rfl) rfl (wn_g rfl rfl rfl rfl) (rp_move rfl rfl) rfl ?_
     refine JA_takeP (i := 17) rfl rfl (by kernel_rfl) (by kernel_rfl) (by kernel_rfl) rfl (wn_g rfl rfl rfl rfl) (rp2 rfl rfl (fun ρ hx hy w => ex_sub rfl hx hy (by omega))) rfl ?_
     refine JA_takeP (i := 18) rfl rfl (by kernel_rfl) (by kernel_rfl) (by kernel_rfl) rfl (wn_g rfl rfl rfl rfl) (rp_move rfl rfl) rfl ?_
     refine JA_takeP (i := 19) rfl rfl (by kernel_rfl) (by kernel_rfl) (by kernel_rfl) rfl (wn_g rfl rfl rfl rfl) (rp2 rfl rfl (fun ρ hx hy w => ex_sub rfl hx hy (by omega))) rfl ?_
     refine JA_takeP (i := 20) rfl rfl (by kernel_rfl) (by kernel_rfl) (by kernel_rfl) rfl (wn_g rfl rfl rfl rfl) (rp2 rfl rfl (fun ρ hx hy w => ex_indexI (k := (nn - 1 - i)) rfl hx hy (by omega) Try.underlying26 sz_3 (by omega))) rfl ?_
     refine JA_takeX (i := 21) rfl rfl (by kernel_rfl) (by kernel_rfl) (by kernel_rfl) rfl rfl (by repeat constructor) (wn_g rfl rfl rfl rfl) (rv_ownE (k := 1) (j := (nn - 1 - i)) (L := O.take nn) EI rfl rfl ag_3 (by repeat constructor) (by omega) (by omega) (by rw [hyt]; rfl)) rfl ?_
     refine JA_takeP (i := 22) rfl rfl (by kernel_rfl) (by kernel_rfl) (by kernel_rfl) rfl (wn_g rfl rfl rfl rfl) (rp_move rfl rfl) rfl ?_
     refine JA_takeP (i := 23) rfl rfl (by kernel_rfl) (by kernel_rfl) (by kernel_rfl) rfl (wn_g rfl rfl rfl rfl) (rp_move rfl rfl) rfl ?_
     refine JA_takeP (i := 24) rfl rfl (by kernel_rfl) (by kernel_rfl) (by kernel_rfl) rfl (wn_g rfl rfl rfl rfl) (rp_move rfl rfl) rfl ?_
     refine JA_takeP (i := 25) rfl rfl (by kernel_rfl) (by kernel_rfl) (by kernel_rfl) rfl (wn_g rfl rfl rfl rfl) (rp2 rfl rfl (fun ρ hx hy w => ex_sub rfl hx hy (by omega))) rfl ?_
     refine JA_takeP (i := 26) rfl rfl (by kernel_rfl) (by kernel_rfl) (by kernel_rfl) rfl (wn_g rfl rfl rfl rfl) (rp_move rfl rfl) rfl ?_
     refine JA_takeP (i := 27) rfl rfl (by kernel_rfl) (by kernel_rfl) (by kernel_rfl) rfl (wn_g rfl rfl rfl rfl) (rp2 rfl rfl (fun ρ hx hy w => ex_sub rfl hx hy (by omega))) rfl ?_
     refine JA_takeP (i := 28) rfl rfl (by kernel_rfl) (by kernel_rfl) (by kernel_rfl) rfl (wn_g rfl rfl rfl rfl) (rp2 rfl rfl (fun ρ hx hy w => ex_indexI (k := (nn - 1 - i)) rfl hx hy (by omega) Try.underlying26 sz_3 (by omega))) rfl ?_
     refine JA_takeX (i := 29) rfl rfl (by kernel_rfl) (by kernel_rfl) (by kernel_rfl) rfl rfl (by repeat constructor) (wn_g rfl rfl rfl rfl) (rv_ownE (k := 1) (j := (nn - 1 - i)) (L := O.take nn) EI rfl rfl ag_3 (by repeat constructor) (by omega) (by omega) (by rw [hyt]; rfl)) rfl ?_
     refine JA_one (i := 30) (by kernel_rfl) rfl (wn_g rfl rfl rfl rfl) (ow_callB (ec_fn rfl rfl cf_37) rfl rfl (fun w hw => won37 ws y w Aw cw (fun h => by obtain ⟨b, o, e, hh⟩ := hAw h; exact ⟨b, o, e, hh.up EB hw.bel⟩) (by omega))) trivial (fun _ _ => ?_)
     refine JA_one (i := 31) (by kernel_rfl) rfl (wn_g rfl rfl rfl rfl) (ow_callM (A := resB t38.bm i (mSet (wonN ws) (((O.take nn).reverse).take i))) (T := Unit) (φ := fun _ => True) (V := fun _ => .int .i64 0) (C := fun _ => resB t38.bm (i + 1) (mSet (wonN ws) (((O.take nn).reverse).take i ++ [((y : Nat) : Int)]))) (ec_fn rfl rfl cf_36) rfl rfl rfl (fun _ => rfl) (fun _ => (by repeat constructor)) (fun w hw => by have hp := pd_of (T := (N : Nat)) (G := G) (R := R) (t := t38) (k := i) (m := (mSet (wonN ws) (((O.take nn).reverse).take i))) hw (by unfold PdG; repeat (first | exact Pk.nil _ | (refine Pk.pick (by repeat (first | exact Rm.here _ | apply Rm.there)) ?_))) ⟨by omega, by omega⟩; have := report36 (N : Nat) G R (mSet (wonN ws) (((O.take nn).reverse).take i)) (y : Nat) (wonN ws y) w _ _ _ _ i _ _ hp.1 hp.2.1 hp.2.2 (by omega) (by omega) (by unfold W64; omega) (by unfold W64; omega); rw [hry.2, hry.1] at this; exact this)) ⟨by kernel_rfl, .inr ⟨rfl, (by repeat constructor)⟩⟩ (fun _ _ => ?_)
     refine JA_takeP (i := 32) rfl rfl (by kernel_rfl) (by kernel_rfl) (by kernel_rfl) rfl (wn_g rfl rfl rfl rfl) (rp2 rfl rfl (fun ρ hx hy w => ex_neq29 rfl hx hy)) rfl ?_
     refine JA_decF (fun h => h rfl) ?_
     refine JAP (i := 33) rfl (rp_pickF rfl rfl rfl) ?_
     refine JA_done (by kernel_rfl) ?_
     refine JQ_then_n ?_
     refine J_no rfl rfl ?_
     refine J_skip ?_
     refine JQ_block_n ?_
     refine JQ_then_n ?_
     refine J_keep (l' := [(1, _), (4, _), (9, _), (11, _), (13, _), (15, _), (19, _), (20, _), (21, _)]) ⟨rfl, rfl, rfl, rfl, rfl, rfl, rfl, rfl, rfl, trivial⟩ ?_
     refine J_reg ?_
     refine JM rfl rfl rfl rfl rfl ?_
     refine JP (rp2 rfl rfl (fun ρ hx hy w => ex_add rfl hx hy (by omega))) ?_
     refine JN rfl rfl rfl rfl rfl ?_
     refine JL_nil ?_
     exact JQ_round (i + 1) (by omega) (by omega) ⟨rfl, rfl, rfl, rfl, rfl, rfl, rfl, rfl, (congrArg some (by go_num)), trivial⟩ (by (try dsimp only); rw [hO1, hQ1]; repeat (first | exact Pk.nil _ | (refine Pk.pick (by repeat (first | exact Rm.here _ | apply Rm.there)) ?_)))
    ·refine JL_nil ?_
     refine JQ_then_n ?_
     refine J_no rfl rfl ?_
     refine J_exit ?_
     refine JQ_then_x ?_
     refine JQ_then_x ?_
     refine JQ_block_y rfl ?_
     refine JQ_then_n ?_
     refine J_seq ?_
     refine J_seq ?_
     obtain rfl : nn = i := by omega
     have hms : mSet (wonN ws) (((O.take nn).reverse).take nn) = mSet (wonN ws) (O.take nn) := mSet_same (fun z => by rw [List.take_of_length_le (by rw [List.length_reverse, List.length_take]; omega), List.mem_reverse])
     simp only [hms]
     have hpl1 : (plcL (tmM (mSet (wonN ws) (O.take nn)) N G G.length) R).length = R.length := by unfold plcL; rw [List.length_map]
     have hrl1 := rdL_len (mSet (wonN ws) (O.take nn)) (tmM (mSet (wonN ws) (O.take nn)) N G G.length) G G.length
     refine J_keep (l' := [(1, _), (4, _), (9, _), (11, _), (13, _), (15, _), (19, _)]) ⟨rfl, rfl, rfl, rfl, rfl, rfl, rfl, trivial⟩ ?_
     refine J_reg ?_
     refine JM rfl rfl rfl rfl rfl ?_
     refine JL_opS (wn0 rfl) (ow_callS (ec_fn rfl rfl cf_38) rfl rfl (fun w hw => (by have hp := pd_of (T := (N : Nat)) (G := G) (R := R) (t := t33) (k := nn) (m := (mSet (wonN ws) (O.take nn))) hw (by unfold PdG; repeat (first | exact Pk.nil _ | (refine Pk.pick (by repeat (first | exact Rm.here _ | apply Rm.there)) ?_))) ⟨by omega, by omega⟩; obtain ⟨n0, c0, -, hmp⟩ := id hp.2.2; exact places38 N G R (mSet (wonN ws) (O.take nn)) w _ _ _ _ n0 c0 _ _ hp.1 hmp (by omega) (by omega) (by omega) hG2 hR2 (mSet_v (wonN_v ws) (O.take nn))))) (fun A161 c161 => ?_)
     refine JM rfl rfl rfl rfl rfl ?_
     refine JL_opS (wn0 rfl) (ow_callS (ec_fn rfl rfl cf_38) rfl rfl (fun w hw => (by have hp := pd_of (T := (N : Nat)) (G := G) (R := R) (t := t38) (k := nn) (m := (mSet (wonN ws) (O.take nn))) hw (by unfold PdG; repeat (first | exact Pk.nil _ | (refine Pk.pick (by repeat (first | exact Rm.here _ | apply Rm.there)) ?_))) ⟨by omega, by omega⟩; obtain ⟨n0, c0, -, hmp⟩ := id hp.2.2; exact places38 N G R (mSet (wonN ws) (O.take nn)) w _ _ _ _ n0 c0 _ _ hp.1 hmp (by omega) (by omega) (by omega) hG2 hR2 (mSet_v (wonN_v ws) (O.take nn))))) (fun A163 c163 => ?_)
     refine JL_op (wn0 rfl) (ow_callB (ec_fn rfl rfl cf_39) rfl rfl (fun w hw => Ints39 (plcL (tmM (mSet (wonN ws) (O.take nn)) N G G.length) R) (plcL (tmM (mSet (wonN ws) (O.take nn)) N G G.length) R) _ _ w (Arr.of_own EI (hw.ok (ownB 3 1 A161 (plcL (tmM (mSet (wonN ws) (O.take nn)) N G G.length) R).length c161 ((plcL (tmM (mSet (wonN ws) (O.take nn)) N G G.length) R).flatMap eI)) (by repeat constructor)).1 (by omega)) (Arr.of_own EI (hw.ok (ownB 3 1 A163 (plcL (tmM (mSet (wonN ws) (O.take nn)) N G G.length) R).length c163 ((plcL (tmM (mSet (wonN ws) (O.take nn)) N G G.length) R).flatMap eI)) (by repeat constructor)).1 (by omega)))) (fun _ _ => ?_)
     refine JL_boolT (decide_eq_true rfl) ?_
     refine JP (rp1 rfl (fun ρ hx w => ex_not rfl hx)) ?_
     refine JM rfl rfl rfl rfl rfl ?_
     refine JPg (rp_move rfl rfl) ?_
     refine JL_opS (wn_g rfl rfl rfl rfl) (ow_callS (ec_fn rfl rfl cf_40) rfl rfl (fun w hw => (by have hp := pd_of (T := (N : Nat)) (G := G) (R := R) (t := t33) (k := nn) (m := (mSet (wonN ws) (O.take nn))) hw (by unfold PdG; repeat (first | exact Pk.nil _ | (refine Pk.pick (by repeat (first | exact Rm.here _ | apply Rm.there)) ?_))) ⟨by omega, by omega⟩; have := Ready40 N G R (mSet (wonN ws) (O.take nn)) w _ _ _ _ nn _ _ hp.1 hp.2.2 (by omega) (by omega) hG2 (mSet_v (wonN_v ws) (O.take nn)); exact this))) (fun A168 c168 => ?_)
     refine JPg (rp_move rfl rfl) ?_
     refine JL_opS (wn_g rfl rfl rfl rfl) (ow_callS (ec_fn rfl rfl cf_40) rfl rfl (fun w hw => (by have hp := pd_of (T := (N : Nat)) (G := G) (R := R) (t := t38) (k := nn) (m := (mSet (wonN ws) (O.take nn))) hw (by unfold PdG; repeat (first | exact Pk.nil _ | (refine Pk.pick (by repeat (first | exact Rm.here _ | apply Rm.there)) ?_))) ⟨by omega, by omega⟩; have := Ready40 N G R (mSet (wonN ws) (O.take nn)) w _ _ _ _ nn _ _ hp.1 hp.2.2 (by omega) (by omega) hG2 (mSet_v (wonN_v ws) (O.take nn)); exact this))) (fun A170 c170 => ?_)
     refine JL_op (wn_g rfl rfl rfl rfl) (ow_callB (ec_fn rfl rfl cf_39) rfl rfl (fun w hw => Ints39 (rdL (mSet (wonN ws) (O.take nn)) (tmM (mSet (wonN ws) (O.take nn)) N G G.length) G G.length) (rdL (mSet (wonN ws) (O.take nn)) (tmM (mSet (wonN ws) (O.take nn)) N G G.length) G G.length) _ _ w (Arr.of_own EI (hw.ok (ownB 3 1 A168 (rdL (mSet (wonN ws) (O.take nn)) (tmM (mSet (wonN ws) (O.take nn)) N G G.length) G G.length).length c168 ((rdL (mSet (wonN ws) (O.take nn)) (tmM (mSet (wonN ws) (O.take nn)) N G G.length) G G.length).flatMap eI)) (by repeat constructor)).1 (by omega)) (Arr.of_own EI (hw.ok (ownB 3 1 A170 (rdL (mSet (wonN ws) (O.take nn)) (tmM (mSet (wonN ws) (O.take nn)) N G G.length) G G.length).length c170 ((rdL (mSet (wonN ws) (O.take nn)) (tmM (mSet (wonN ws) (O.take nn)) N G G.length) G G.length).flatMap eI)) (by repeat constructor)).1 (by omega)))) (fun _ _ => ?_)
     refine JL_boolT (decide_eq_true rfl) ?_
     refine JPg (rp1 rfl (fun ρ hx w => ex_not rfl hx)) ?_
     refine JP (rp_pickF rfl rfl rfl) ?_
     refine JL_nil ?_
     refine JQ_then_n ?_
     refine J_no rfl rfl ?_
     refine J_skip ?_
     refine JQ_then_n ?_
     refine J_seq ?_
     refine J_seq ?_
     refine J_keep (l' := [(1, _), (4, _), (9, _), (13, _), (15, _), (19, _)]) ⟨rfl, rfl, rfl, rfl, rfl, rfl, trivial⟩ ?_
     refine J_reg ?_
     refine JM rfl rfl rfl rfl rfl ?_
     refine JN rfl rfl rfl rfl rfl ?_
     refine JL_nil ?_
     refine JQ_then_n ?_
     refine J_block ?_
     refine J_loop (T := Nat) (fun i => nn ≤ i ∧ i ≤ O.length) (fun i => [(1, .slice Aw ws.length cw), (4, .pointer (some ⟨b4, 0, none⟩)), (9, .pointer (some ⟨t33.bp, 0, none⟩)), (13, .pointer (some ⟨t43.bp, 0, none⟩)), (15, .slice (some ⟨gO, 0, none⟩) O.length c15), (22, .int .i64 (i : Nat))]) (fun i => [cellB b4 [.int .i64 (N : Nat), .slice A G.length c, .slice A2 R.length c2] 25, cellB t33.bp [.int .i64 (N : Nat), .slice t33.A G.length t33.c, .slice t33.A2 R.length t33.c2, .map (some t33.bm)] 86, ownB 90 4 t33.A G.length t33.c (G.flatMap eG), ownB 89 2 t33.A2 R.length t33.c2 (R.flatMap eP), resB t33.bm i (mSet (wonN ws) (O.take i)), cellB t43.bp [.int .i64 (N : Nat), .slice t43.A G.length t43.c, .slice t43.A2 R.length t43.c2, .map (some t43.bm)] 86, ownB 90 4 t43.A G.length t43.c (G.flatMap eG), ownB 89 2 t43.A2 R.length t43.c2 (R.flatMap eP), resB t43.bm 0 (mSet (wonN ws) ([])), ownB 3 1 (some ⟨gO, 0, none⟩) (O).length c15 ((O).flatMap eI)]) (fun i => O.length - i) nn ⟨Nat.le_refl _, by omega⟩ ⟨rfl, rfl, rfl, rfl, rfl, rfl, trivial⟩ (by repeat constructor) ?_
     rintro i ⟨hni, hi⟩
     refine J_seq ?_
     refine J_seq ?_
     refine J_reg ?_
     refine JM rfl rfl rfl rfl rfl ?_
     refine JM rfl rfl rfl rfl rfl ?_
     refine JP (rp1 rfl (fun ρ hx w => ex_len (A := _) (c := _) rfl Try.underlying26 hx)) ?_
     refine JP (rp2 rfl rfl (fun ρ hx hy w => ex_lssD rfl hx hy)) ?_
     refine JL_dec (fun h178 => ?_) (fun h178 => ?_)
     ·refine JL_nil ?_
      refine JQ_then_n ?_
      refine J_yes rfl rfl ?_
      refine J_skip ?_
      refine JQ_then_n ?_
      refine J_seq ?_
      refine J_block ?_
      refine J_seq ?_
      have hlt : i < O.length := by omega
      obtain ⟨x, hx'⟩ := Int.eq_ofNat_of_zero_le (hOr _ (List.getElem_mem hlt)).1
      have hx : O[i]'hlt = ((x : Nat) : Int) := hx'
      have hxr := hOr _ (List.getElem_mem hlt)
      rw [hx] at hxr
      have hO1 : O.take (i + 1) = O.take i ++ [((x : Nat) : Int)] := by rw [List.take_succ_eq_append_getElem hlt, hx]
      have hxn := take_no hOn i hlt
      rw [hx] at hxn
      have hre := mSet_rep (wonN_v ws) (G := G) (S := O.take i) (i := ((x : Nat) : Int)) (by omega) hxn
      rw [Int.toNat_natCast] at hre
      have hwv := wonN_v ws x
      refine J_keep (l' := [(1, _), (4, _), (9, _), (13, _), (15, _), (22, _)]) ⟨rfl, rfl, rfl, rfl, rfl, rfl, trivial⟩ ?_
      refine J_drawX [] [4, 9] [ownB 3 1 (some ⟨gO, 0, none⟩) (O).length c15 ((O).flatMap eI)] (by repeat constructor) (by kernel_rfl) ?_
      refine JAP (i := 0) rfl (rp_move rfl rfl) ?_
      refine JAP (i := 1) rfl (rp_move rfl rfl) ?_
      refine JAP (i := 2) rfl (rp_move rfl rfl) ?_
      refine JAP (i := 3) rfl (rp2 rfl rfl (fun ρ hx hy w => ex_indexI (k := i) rfl hx hy rfl Try.underlying26 sz_3 (by omega))) ?_
      refine JAX (i := 4) rfl (rv_ownE (k := 1) (j := i) (L := O) EI rfl rfl ag_3 (by repeat constructor) (by omega) (by omega) (by rw [hx]; rfl)) ?_
      refine JAP (i := 5) rfl (rp_move rfl rfl) ?_
      refine JAP (i := 6) rfl (rp_move rfl rfl) ?_
      refine JAP (i := 7) rfl (rp_move rfl rfl) ?_
      refine JAP (i := 8) rfl (rp2 rfl rfl (fun ρ hx hy w => ex_indexI (k := i) rfl hx hy rfl Try.underlying26 sz_3 (by omega))) ?_
      refine JAX (i := 9) rfl (rv_ownE (k := 1) (j := i) (L := O) EI rfl rfl ag_3 (by repeat constructor) (by omega) (by omega) (by rw [hx]; rfl)) ?_
      refine JA_one (i := 10) (by kernel_rfl) rfl (wn0 rfl) (ow_callB (ec_fn rfl rfl cf_37) rfl rfl (fun w hw => won37 ws x w Aw cw (fun h => by obtain ⟨b, o, e, hh⟩ := hAw h; exact ⟨b, o, e, hh.up EB hw.bel⟩) (by omega))) trivial (fun _ _ => ?_)
      refine JA_one (i := 11) (by kernel_rfl) rfl (wn0 rfl) (ow_callM (A := resB t33.bm i (mSet (wonN ws) (O.take i))) (T := Unit) (φ := fun _ => True) (V := fun _ => .int .i64 0) (C := fun _ => resB t33.bm (i + 1) (mSet (wonN ws) (O.take i ++ [((x : Nat) : Int)]))) (ec_fn rfl rfl cf_36) rfl rfl rfl (fun _ => rfl) (fun _ => (by repeat constructor)) (fun w hw => by have hp := pd_of (T := (N : Nat)) (G := G) (R := R) (t := t33) (k := i) (m := (mSet (wonN ws) (O.take i))) hw (by unfold PdG; repeat (first | exact Pk.nil _ | (refine Pk.pick (by repeat (first | exact Rm.here _ | apply Rm.there)) ?_))) ⟨by omega, by omega⟩; have := report36 (N : Nat) G R (mSet (wonN ws) (O.take i)) (x : Nat) (wonN ws x) w _ _ _ _ i _ _ hp.1 hp.2.1 hp.2.2 (by omega) (by omega) (by unfold W64; omega) (by unfold W64; omega); rw [hre.2, hre.1] at this; exact this)) ⟨by kernel_rfl, .inr ⟨rfl, (by repeat constructor)⟩⟩ (fun _ _ => ?_)
      refine JAP (i := 12) rfl (rp2 rfl rfl (fun ρ hx hy w => ex_neq29 rfl hx hy)) ?_
      refine JA_decF (fun h => h rfl) ?_
      refine JA_done (by kernel_rfl) ?_
      refine JQ_then_n ?_
      refine J_no rfl rfl ?_
      refine J_skip ?_
      refine JQ_block_n ?_
      refine JQ_then_n ?_
      refine J_keep (l' := [(1, _), (4, _), (9, _), (13, _), (15, _), (22, _)]) ⟨rfl, rfl, rfl, rfl, rfl, rfl, trivial⟩ ?_
      refine J_reg ?_
      refine JM rfl rfl rfl rfl rfl ?_
      refine JP (rp2 rfl rfl (fun ρ hx hy w => ex_add rfl hx hy (by omega))) ?_
      refine JN rfl rfl rfl rfl rfl ?_
      refine JL_nil ?_
      exact JQ_round (i + 1) ⟨by omega, by omega⟩ (by omega) ⟨rfl, rfl, rfl, rfl, rfl, (congrArg some (by go_num)), trivial⟩ (by (try dsimp only); rw [hO1]; repeat (first | exact Pk.nil _ | (refine Pk.pick (by repeat (first | exact Rm.here _ | apply Rm.there)) ?_)))
     ·refine JL_nil ?_
      refine JQ_then_n ?_
      refine J_no rfl rfl ?_
      refine J_exit ?_
      refine JQ_then_x ?_
      refine JQ_then_x ?_
      refine JQ_block_y rfl ?_
      refine JQ_then_n ?_
      refine J_seq ?_
      refine J_seq ?_
      obtain rfl : i = O.length := by omega
      simp only [List.take_length]
      simp only [hO]
      refine J_keep (l' := [(1, _), (4, _), (9, _), (13, _)]) ⟨rfl, rfl, rfl, rfl, trivial⟩ ?_
      refine J_reg ?_
      refine JN rfl rfl rfl rfl rfl ?_
      refine JL_nil ?_
      refine JQ_then_n ?_
      refine J_block ?_
      refine J_loop (T := Nat × List Int) (fun q => q.1 ≤ G.length ∧ q.2.length = q.1 ∧ q.2.Nodup ∧ ∀ x ∈ q.2, 0 ≤ x ∧ x < ((G.length : Nat) : Int)) (fun q => [(1, .slice Aw ws.length cw), (4, .pointer (some ⟨b4, 0, none⟩)), (9, .pointer (some ⟨t33.bp, 0, none⟩)), (13, .pointer (some ⟨t43.bp, 0, none⟩)), (23, .int .i64 (q.1 : Nat))]) (fun q => [cellB b4 [.int .i64 (N : Nat), .slice A G.length c, .slice A2 R.length c2] 25, cellB t33.bp [.int .i64 (N : Nat), .slice t33.A G.length t33.c, .slice t33.A2 R.length t33.c2, .map (some t33.bm)] 86, ownB 90 4 t33.A G.length t33.c (G.flatMap eG), ownB 89 2 t33.A2 R.length t33.c2 (R.flatMap eP), resB t33.bm G.length (mSet (wonN ws) (O)), cellB t43.bp [.int .i64 (N : Nat), .slice t43.A G.length t43.c, .slice t43.A2 R.length t43.c2, .map (some t43.bm)] 86, ownB 90 4 t43.A G.length t43.c (G.flatMap eG), ownB 89 2 t43.A2 R.length t43.c2 (R.flatMap eP), resB t43.bm q.1 (mSet (wonN ws) (q.2))]) (fun q => G.length - q.1) (0, []) ⟨Nat.zero_le _, rfl, List.nodup_nil, nofun⟩ ⟨rfl, rfl, rfl, rfl, rfl, trivial⟩ (by repeat constructor) ?_
      rintro ⟨i, S⟩ ⟨hi, hSl, hSn, hSr⟩
      dsimp only at hi hSl hSn hSr ⊢
      refine J_seq ?_
      refine J_seq ?_
      refine J_reg ?_
      refine JM rfl rfl rfl rfl rfl ?_
      refine JP (rp_fieldC (off' := 1) rfl rfl fa_25_1 rfl) ?_
      refine JV (rv_cell rfl rfl ag_22 (by repeat constructor) (by rfl)) ?_
      refine JP (rp1 rfl (fun ρ hx w => ex_len (A := _) (c := _) rfl Try.underlying22 hx)) ?_
      refine JP (rp2 rfl rfl (fun ρ hx hy w => ex_lssD rfl hx hy)) ?_
      refine JL_dec (fun h198 => ?_) (fun h198 => ?_)
      ·refine JL_nil ?_
       refine JQ_then_n ?_
       refine J_yes rfl rfl ?_
       refine J_skip ?_
       refine JQ_then_n ?_
       refine J_seq ?_
       refine J_block ?_
       refine J_seq ?_
       have hltG : i < G.length := by omega
       obtain ⟨LL, hLL⟩ : ∃ L, rdL (mSet (wonN ws) (S)) (tmM (mSet (wonN ws) (S)) N G G.length) G G.length = L := ⟨_, rfl⟩
       obtain ⟨g0, hg0, hg1⟩ := miss (n := G.length) (S := S) (by omega)
       have hLn : LL ≠ [] := by rw [← hLL]; exact rd_ne (mSet_v (wonN_v ws) (S)) hbo.gm hg0 (by unfold mSet; rw [if_neg hg1])
       have hLl : LL.length ≤ G.length := by rw [← hLL]; exact rdL_len _ _ _ _
       have hLp : 0 < LL.length := List.length_pos_iff.2 hLn
       have hlt : LL.length - 1 < LL.length := by omega
       have hxm := rd_mem _ _ _ _ _ (by rw [hLL]; exact List.getElem_mem hlt : LL[LL.length - 1]'hlt ∈ rdL (mSet (wonN ws) (S)) (tmM (mSet (wonN ws) (S)) N G G.length) G G.length)
       obtain ⟨x, hx'⟩ := Int.eq_ofNat_of_zero_le hxm.1.1
       have hx : LL[LL.length - 1]'hlt = ((x : Nat) : Int) := hx'
       rw [hx] at hxm
       have hxn : ((x : Nat) : Int) ∉ S := fun h => by have := hxm.2; unfold mSet at this; rw [if_pos h] at this; cases this
       have hre := mSet_rep (wonN_v ws) (G := G) (S := S) (i := ((x : Nat) : Int)) hxm.1 hxn
       rw [Int.toNat_natCast] at hre
       have hwv := wonN_v ws x
       have hxr := hxm.1
       have hSn2 : (S ++ [((x : Nat) : Int)]).Nodup := List.nodup_append.2 ⟨hSn, List.nodup_cons.2 ⟨List.not_mem_nil, List.nodup_nil⟩, fun a ha b hb e => by rw [List.mem_singleton] at hb; subst hb; subst e; exact hxn ha⟩
       have hSr2 : ∀ z ∈ S ++ [((x : Nat) : Int)], 0 ≤ z ∧ z < ((G.length : Nat) : Int) := fun z hz => by
         rcases List.mem_append.1 hz with hz | hz
         · exact hSr z hz
         · rw [List.mem_singleton] at hz; subst hz; exact hxm.1
       refine J_keep (l' := [(1, _), (4, _), (9, _), (13, _), (23, _)]) ⟨rfl, rfl, rfl, rfl, rfl, trivial⟩ ?_
       refine J_reg ?_
       refine JM rfl rfl rfl rfl rfl ?_
       refine JL_opS (wn0 rfl) (ow_callS (ec_fn rfl rfl cf_40) rfl rfl (fun w hw => (by have hp := pd_of (T := (N : Nat)) (G := G) (R := R) (t := t43) (k := i) (m := (mSet (wonN ws) (S))) hw (by unfold PdG; repeat (first | exact Pk.nil _ | (refine Pk.pick (by repeat (first | exact Rm.here _ | apply Rm.there)) ?_))) ⟨by omega, by omega⟩; have := Ready40 N G R (mSet (wonN ws) (S)) w _ _ _ _ i _ _ hp.1 hp.2.2 (by omega) (by omega) hG2 (mSet_v (wonN_v ws) (S)); rw [hLL] at this; exact this))) (fun A202 c202 => ?_)
       refine JN rfl rfl rfl rfl rfl ?_
       refine JL_nil ?_
       refine JQ_then_n ?_
       refine J_seq ?_
       refine J_fact (fun hf => ?_)
       obtain ⟨g202, rfl⟩ := own_some (A := A202) (ty := 3) (k := 1) (m := LL.length) hf (by repeat constructor) (by omega)
       refine J_drawX [] [10, 17] [ownB 3 1 (some ⟨g202, 0, none⟩) (LL).length c202 ((LL).flatMap eI)] (by repeat constructor) (by kernel_rfl) ?_
       refine JAP (i := 0) rfl (rp_move rfl rfl) ?_
       refine JAP (i := 1) rfl (rp1 rfl (fun ρ hx w => ex_len (A := _) (c := _) rfl Try.underlying26 hx)) ?_
       refine JAP (i := 2) rfl (rp2 rfl rfl (fun ρ hx hy w => ex_eqlD rfl hx hy)) ?_
       refine JA_decF (by omega) ?_
       refine JAP (i := 3) rfl (rp_move rfl rfl) ?_
       refine JA_takeP (i := 4) rfl rfl (by kernel_rfl) (by kernel_rfl) (by kernel_rfl) rfl (wn_g rfl rfl rfl rfl) (rp_move rfl rfl) rfl ?_
       refine JA_takeP (i := 5) rfl rfl (by kernel_rfl) (by kernel_rfl) (by kernel_rfl) rfl (wn_g rfl rfl rfl rfl) (rp_move rfl rfl) rfl ?_
       refine JA_takeP (i := 6) rfl rfl (by kernel_rfl) (by kernel_rfl) (by kernel_rfl) rfl (wn_g rfl rfl rfl rfl) (rp_move rfl rfl) rfl ?_
       refine JA_takeP (i := 7) rfl rfl (by kernel_rfl) (by kernel_rfl) (by kernel_rfl) rfl (wn_g rfl rfl rfl rfl) (rp1 rfl (fun ρ hx w => ex_len (A := _) (c := _) rfl Try.underlying26 hx)) rfl ?_
       refine JA_takeP (i := 8) rfl rfl (by kernel_rfl) (by kernel_rfl) (by kernel_rfl) rfl (wn_g rfl rfl rfl rfl) (rp2 rfl rfl (fun ρ hx hy w => ex_sub rfl hx hy (by omega))) rfl ?_
       refine JA_takeP (i := 9) rfl rfl (by kernel_rfl) (by kernel_rfl) (by kernel_rfl) rfl (wn_g rfl rfl rfl rfl) (rp2 rfl rfl (fun ρ hx hy w => ex_indexI (k := (LL.length - 1)) rfl hx hy (by omega) Try.underlying26 sz_3 (by omega))) rfl ?_
       refine JA_takeX (i := 10) rfl rfl (by kernel_rfl) (by kernel_rfl) (by kernel_rfl) rfl rfl (by repeat constructor) (wn_g rfl rfl rfl rfl) (rv_ownE (k := 1) (j := (LL.length - 1)) (L := LL) EI rfl rfl ag_3 (by repeat constructor) (by omega) (by omega) (by rw [hx]; rfl)) rfl ?_
       refine JA_takeP (i := 11) rfl rfl (by kernel_rfl) (by kernel_rfl) (by kernel_rfl) rfl (wn_g rfl rfl rfl rfl) (rp_move rfl rfl) rfl ?_
       refine JA_takeP (i := 12) rfl rfl (by kernel_rfl) (by kernel_rfl) (by kernel_rfl) rfl (wn_g rfl rfl rfl rfl) (rp_move rfl rfl) rfl ?_
       refine JA_takeP (i := 13) rfl rfl (by kernel_rfl) (by kernel_rfl) (by kernel_rfl) rfl (wn_g rfl rfl rfl rfl) (rp_move rfl rfl) rfl ?_
       refine JA_takeP (i := 14) rfl rfl (by kernel_rfl) (by kernel_rfl) (by kernel_rfl) rfl (wn_g rfl rfl rfl rfl) (rp1 rfl (fun ρ hx w => ex_len (A := _) (c := _) rfl Try.underlying26 hx)) rfl ?_
       refine JA_takeP (i := 15) rfl rfl (by kernel_rfl) (by kernel_rfl) (by kernel_rfl) rfl (wn_g rfl rfl rfl rfl) (rp2 rfl rfl (fun ρ hx hy w => ex_sub rfl hx hy (by omega))) rfl ?_
       refine JA_takeP (i := 16) rfl rfl (by kernel_rfl) (by kernel_rfl) (by kernel_rfl) rfl (wn_g rfl rfl rfl rfl) (rp2 rfl rfl (fun ρ hx hy w => ex_indexI (k := (LL.length - 1)) rfl hx hy (by omega) Try.underlying26 sz_3 (by omega))) rfl ?_
       refine JA_takeX (i := 17) rfl rfl (by kernel_rfl) (by kernel_rfl) (by kernel_rfl) rfl rfl (by repeat constructor) (wn_g rfl rfl rfl rfl) (rv_ownE (k := 1) (j := (LL.length - 1)) (L := LL) EI rfl rfl ag_3 (by repeat constructor) (by omega) (by omega) (by rw [hx]; rfl)) rfl ?_
       refine JA_one (i := 18) (by kernel_rfl) rfl (wn_g rfl rfl rfl rfl) (ow_callB (ec_fn rfl rfl cf_37) rfl rfl (fun w hw => won37 ws x w Aw cw (fun h => by obtain ⟨b, o, e, hh⟩ := hAw h; exact ⟨b, o, e, hh.up EB hw.bel⟩) (by omega))) trivial (fun _ _ => ?_)
       refine JA_one (i := 19) (by kernel_rfl) rfl (wn_g rfl rfl rfl rfl) (ow_callM (A := resB t43.bm i (mSet (wonN ws) (S))) (T := Unit) (φ := fun _ => True) (V := fun _ => .int .i64 0) (C := fun _ => resB t43.bm (i + 1) (mSet (wonN ws) (S ++ [((x : Nat) : Int)]))) (ec_fn rfl rfl cf_36) rfl rfl rfl (fun _ => rfl) (fun _ => (by repeat constructor)) (fun w hw => by have hp := pd_of (T := (N : Nat)) (G := G) (R := R) (t := t43) (k := i) (m := (mSet (wonN ws) (S))) hw (by unfold PdG; repeat (first | exact Pk.nil _ | (refine Pk.pick (by repeat (first | exact Rm.here _ | apply Rm.there)) ?_))) ⟨by omega, by omega⟩; have := report36 (N : Nat) G R (mSet (wonN ws) (S)) (x : Nat) (wonN ws x) w _ _ _ _ i _ _ hp.1 hp.2.1 hp.2.2 (by omega) (by omega) (by unfold W64; omega) (by unfold W64; omega); rw [hre.2, hre.1] at this; exact this)) ⟨by kernel_rfl, .inr ⟨rfl, (by repeat constructor)⟩⟩ (fun _ _ => ?_)
       refine JA_takeP (i := 20) rfl rfl (by kernel_rfl) (by kernel_rfl) (by kernel_rfl) rfl (wn_g rfl rfl rfl rfl) (rp2 rfl rfl (fun ρ hx hy w => ex_neq29 rfl hx hy)) rfl ?_
       refine JA_decF (fun h => h rfl) ?_
       refine JAP (i := 21) rfl (rp_pickF rfl rfl rfl) ?_
       refine JA_done (by kernel_rfl) ?_
       refine JQ_then_n ?_
       refine J_no rfl rfl ?_
       refine J_skip ?_
       refine JQ_block_n ?_
       refine JQ_then_n ?_
       refine J_keep (l' := [(1, _), (4, _), (9, _), (13, _), (23, _)]) ⟨rfl, rfl, rfl, rfl, rfl, trivial⟩ ?_
       refine J_reg ?_
       refine JM rfl rfl rfl rfl rfl ?_
       refine JP (rp2 rfl rfl (fun ρ hx hy w => ex_add rfl hx hy (by omega))) ?_
       refine JN rfl rfl rfl rfl rfl ?_
       refine JL_nil ?_
       exact JQ_round (i + 1, S ++ [((x : Nat) : Int)]) ⟨by dsimp only; omega, by dsimp only; rw [List.length_append]; show S.length + 1 = _; omega, hSn2, hSr2⟩ (by dsimp only; omega) ⟨rfl, rfl, rfl, rfl, (congrArg some (by go_num)), trivial⟩ (by repeat constructor)
      ·refine JL_nil ?_
       refine JQ_then_n ?_
       refine J_no rfl rfl ?_
       refine J_exit ?_
       refine JQ_then_x ?_
       refine JQ_then_x ?_
       refine JQ_block_y rfl ?_
       refine JQ_then_n ?_
       refine J_seq ?_
       obtain rfl : i = G.length := by omega
       have hms : mSet (wonN ws) S = mSet (wonN ws) O := mSet_same (fun z => (all_in hSn hSr hSl z).trans (all_in hOn hOr hO z).symm)
       simp only [hms]
       have hall : ∀ z : Int, 0 ≤ z ∧ z < ((G.length : Nat) : Int) → (mSet (wonN ws) O z).isSome = true := fun z hz => by unfold mSet; rw [if_pos ((all_in hOn hOr hO z).2 hz)]; rfl
       have hPp := plc_perm hbo (mSet_v (wonN_v ws) O) (fun j hj => hall _ ⟨by omega, by omega⟩)
       have hRD : rdL (mSet (wonN ws) (O)) (tmM (mSet (wonN ws) (O)) N G G.length) G G.length = [] := rd_nil hall
       obtain ⟨PL, hPL⟩ : ∃ L, plcL (tmM (mSet (wonN ws) (O)) N G G.length) R = L := ⟨_, rfl⟩
       rw [hPL] at hPp
       have hPl : PL.length = N := by rw [hPp.length_eq, nums_len]
       have hPn : PL.Nodup := hPp.nodup_iff.2 (nums_nd _)
       have hPr : ∀ x ∈ PL, 0 ≤ x ∧ x < ((N : Nat) : Int) := fun x hx => nums_mem.1 (hPp.mem_iff.1 hx)
       refine J_keep (l' := [(4, _), (9, _), (13, _)]) ⟨rfl, rfl, rfl, trivial⟩ ?_
       refine J_reg ?_
       refine JM rfl rfl rfl rfl rfl ?_
       refine JL_opS (wn0 rfl) (ow_callS (ec_fn rfl rfl cf_38) rfl rfl (fun w hw => (by have hp := pd_of (T := (N : Nat)) (G := G) (R := R) (t := t33) (k := G.length) (m := (mSet (wonN ws) (O))) hw (by unfold PdG; repeat (first | exact Pk.nil _ | (refine Pk.pick (by repeat (first | exact Rm.here _ | apply Rm.there)) ?_))) ⟨by omega, by omega⟩; obtain ⟨n0, c0, -, hmp⟩ := id hp.2.2; have := places38 N G R (mSet (wonN ws) (O)) w _ _ _ _ n0 c0 _ _ hp.1 hmp (by omega) (by omega) (by omega) hG2 hR2 (mSet_v (wonN_v ws) (O)); rw [hPL] at this; exact this))) (fun A226 c226 => ?_)
       refine JN rfl rfl rfl rfl rfl ?_
       refine JL_nil ?_
       refine JQ_then_n ?_
       refine J_seq ?_
       refine J_seq ?_
       refine J_reg ?_
       refine JM rfl rfl rfl rfl rfl ?_
       refine JP (rp1 rfl (fun ρ hx w => ex_len (A := _) (c := _) rfl Try.underlying26 hx)) ?_
       refine JP (rp_fieldC (off' := 0) rfl rfl fa_25_0 rfl) ?_
       refine JV (rv_cell rfl rfl ag_3 (by repeat constructor) (by rfl)) ?_
       refine JP (rp2 rfl rfl (fun ρ hx hy w => ex_neqD rfl hx hy)) ?_
       refine JL_decF (by omega) ?_
       refine JM rfl rfl rfl rfl rfl ?_
       refine JPg (rp_move rfl rfl) ?_
       refine JPg (rp_move rfl rfl) ?_
       refine JL_opS (wn_g rfl rfl rfl rfl) (ow_callS (ec_fn rfl rfl cf_38) rfl rfl (fun w hw => (by have hp := pd_of (T := (N : Nat)) (G := G) (R := R) (t := t43) (k := G.length) (m := (mSet (wonN ws) (O))) hw (by unfold PdG; repeat (first | exact Pk.nil _ | (refine Pk.pick (by repeat (first | exact Rm.here _ | apply Rm.there)) ?_))) ⟨by omega, by omega⟩; obtain ⟨n0, c0, -, hmp⟩ := id hp.2.2; have := places38 N G R (mSet (wonN ws) (O)) w _ _ _ _ n0 c0 _ _ hp.1 hmp (by omega) (by omega) (by omega) hG2 hR2 (mSet_v (wonN_v ws) (O)); rw [hPL] at this; exact this))) (fun A235 c235 => ?_)
       refine JL_op (wn_g rfl rfl rfl rfl) (ow_callB (ec_fn rfl rfl cf_39) rfl rfl (fun w hw => Ints39 (PL) (PL) _ _ w (Arr.of_own EI (hw.ok (ownB 3 1 A226 (PL).length c226 ((PL).flatMap eI)) (by repeat constructor)).1 (by omega)) (Arr.of_own EI (hw.ok (ownB 3 1 A235 (PL).length c235 ((PL).flatMap eI)) (by repeat constructor)).1 (by omega)))) (fun _ _ => ?_)
       refine JL_boolT (decide_eq_true rfl) ?_
       refine JPg (rp1 rfl (fun ρ hx w => ex_not rfl hx)) ?_
       refine JP (rp_pickF rfl rfl rfl) ?_
       refine JM rfl rfl rfl rfl rfl ?_
       refine JPg (rp_move rfl rfl) ?_
       refine JL_opS (wn_g rfl rfl rfl rfl) (ow_callS (ec_fn rfl rfl cf_40) rfl rfl (fun w hw => (by have hp := pd_of (T := (N : Nat)) (G := G) (R := R) (t := t33) (k := G.length) (m := (mSet (wonN ws) (O))) hw (by unfold PdG; repeat (first | exact Pk.nil _ | (refine Pk.pick (by repeat (first | exact Rm.here _ | apply Rm.there)) ?_))) ⟨by omega, by omega⟩; have := Ready40 N G R (mSet (wonN ws) (O)) w _ _ _ _ G.length _ _ hp.1 hp.2.2 (by omega) (by omega) hG2 (mSet_v (wonN_v ws) (O)); rw [hRD] at this; exact this))) (fun A241 c241 => ?_)
       refine JPg (rp1 rfl (fun ρ hx w => ex_len (A := _) (c := _) rfl Try.underlying26 hx)) ?_
       refine JPg (rp_move rfl rfl) ?_
       refine JL_opS (wn_g rfl rfl rfl rfl) (ow_callS (ec_fn rfl rfl cf_40) rfl rfl (fun w hw => (by have hp := pd_of (T := (N : Nat)) (G := G) (R := R) (t := t43) (k := G.length) (m := (mSet (wonN ws) (O))) hw (by unfold PdG; repeat (first | exact Pk.nil _ | (refine Pk.pick (by repeat (first | exact Rm.here _ | apply Rm.there)) ?_))) ⟨by omega, by omega⟩; have := Ready40 N G R (mSet (wonN ws) (O)) w _ _ _ _ G.length _ _ hp.1 hp.2.2 (by omega) (by omega) hG2 (mSet_v (wonN_v ws) (O)); rw [hRD] at this; exact this))) (fun A244 c244 => ?_)
       refine JPg (rp1 rfl (fun ρ hx w => ex_len (A := _) (c := _) rfl Try.underlying26 hx)) ?_
       simp only [List.length_nil]
       refine JPg (rp2 rfl rfl (fun ρ hx hy w => ex_add rfl hx hy (by omega))) ?_
       refine JPg (rp2 rfl rfl (fun ρ hx hy w => ex_neqD rfl hx hy)) ?_
       refine JL_decF (by simp) ?_
       refine JP (rp_pickF rfl rfl rfl) ?_
       refine JL_nil ?_
       refine JQ_then_n ?_
       refine J_no rfl rfl ?_
       refine J_skip ?_
       refine JQ_then_n ?_
       refine J_seq ?_
       refine J_fact (fun hf => ?_)
       obtain ⟨gp, rfl⟩ := own_some (A := A226) (ty := 3) (k := 1) (m := PL.length) hf (by repeat constructor) (by omega)
       refine J_keep (l' := [(4, _), (25, _)]) ⟨rfl, rfl, trivial⟩ ?_
       refine J_reg ?_
       refine JL_op (wn0 rfl) (ow_makeI rfl rfl rfl) (fun b249 hb249 => ?_)
       refine JN rfl rfl rfl rfl rfl ?_
       refine JL_nil ?_
       refine JQ_then_n ?_
       refine J_seq ?_
       refine J_seq ?_
       refine J_reg ?_
       refine JN rfl rfl rfl rfl rfl ?_
       refine JL_nil ?_
       refine JQ_then_n ?_
       refine J_block ?_
       refine J_loop (T := Nat) (fun i => i ≤ PL.length) (fun i => [(4, .pointer (some ⟨b4, 0, none⟩)), (25, .slice (some ⟨gp, 0, none⟩) PL.length c226), (26, .map (some b249)), (27, .int .i64 (i : Nat))]) (fun i => [cellB b4 [.int .i64 (N : Nat), .slice A G.length c, .slice A2 R.length c2] 25, ownB 3 1 (some ⟨gp, 0, none⟩) (PL).length c226 ((PL).flatMap eI), setI b249 ((PL.take i).reverse)]) (fun i => PL.length - i) 0 (Nat.zero_le _) ⟨rfl, rfl, rfl, rfl, trivial⟩ (by repeat constructor) ?_
       rintro i hi
       refine J_seq ?_
       refine J_seq ?_
       refine J_reg ?_
       refine JM rfl rfl rfl rfl rfl ?_
       refine JM rfl rfl rfl rfl rfl ?_
       refine JP (rp1 rfl (fun ρ hx w => ex_len (A := _) (c := _) rfl Try.underlying26 hx)) ?_
       refine JP (rp2 rfl rfl (fun ρ hx hy w => ex_lssD rfl hx hy)) ?_
       refine JL_dec (fun h253 => ?_) (fun h253 => ?_)
       ·refine JL_nil ?_
        refine JQ_then_n ?_
        refine J_yes rfl rfl ?_
        refine J_skip ?_
        refine JQ_then_n ?_
        refine J_seq ?_
        refine J_block ?_
        refine J_seq ?_
        refine J_seq ?_
        have hlt : i < PL.length := by omega
        obtain ⟨x, hx'⟩ := Int.eq_ofNat_of_zero_le (hPr _ (List.getElem_mem hlt)).1
        have hx : PL[i]'hlt = ((x : Nat) : Int) := hx'
        have hxr := hPr _ (List.getElem_mem hlt)
        rw [hx] at hxr
        have hno := seen_no hPn i hlt
        rw [hx] at hno
        refine J_keep (l' := [(4, _), (25, _), (26, _), (27, _)]) ⟨rfl, rfl, rfl, rfl, trivial⟩ ?_
        refine J_draw [3, 9, 11, 19, 20] (by kernel_rfl) ?_
        refine JAP (i := 0) rfl (rp_move rfl rfl) ?_
        refine JAP (i := 1) rfl (rp_move rfl rfl) ?_
        refine JAP (i := 2) rfl (rp2 rfl rfl (fun ρ hx hy w => ex_indexI (k := i) rfl hx hy rfl Try.underlying26 sz_3 (by omega))) ?_
        refine JAL (i := 3) rfl (rv_ownE (k := 1) (j := i) (L := PL) EI rfl rfl ag_3 (by repeat constructor) (by omega) (by omega) (by rw [hx]; rfl)) ?_
        refine JAP (i := 4) rfl (rp2 rfl rfl (fun ρ hx hy w => ex_lssD rfl hx hy)) ?_
        refine JA_decF (by omega) ?_
        refine JAP (i := 5) rfl (rp_move rfl rfl) ?_
        refine JA_takeP (i := 6) rfl rfl (by kernel_rfl) (by kernel_rfl) (by kernel_rfl) rfl (wn_g rfl rfl rfl rfl) (rp_move rfl rfl) rfl ?_
        refine JA_takeP (i := 7) rfl rfl (by kernel_rfl) (by kernel_rfl) (by kernel_rfl) rfl (wn_g rfl rfl rfl rfl) (rp_move rfl rfl) rfl ?_
        refine JA_takeP (i := 8) rfl rfl (by kernel_rfl) (by kernel_rfl) (by kernel_rfl) rfl (wn_g rfl rfl rfl rfl) (rp2 rfl rfl (fun ρ hx hy w => ex_indexI (k := i) rfl hx hy rfl Try.underlying26 sz_3 (by omega))) rfl ?_
        refine JA_takeL (i := 9) rfl rfl (by kernel_rfl) (by kernel_rfl) (by kernel_rfl) rfl rfl (by repeat constructor) (wn_g rfl rfl rfl rfl) (rv_ownE (k := 1) (j := i) (L := PL) EI rfl rfl ag_3 (by repeat constructor) (by omega) (by omega) (by rw [hx]; rfl)) rfl ?_
        refine JA_takeP (i := 10) rfl rfl (by kernel_rfl) (by kernel_rfl) (by kernel_rfl) rfl (wn_g rfl rfl rfl rfl) (rp_fieldC (off' := 0) rfl rfl fa_25_0 rfl) rfl ?_
        refine JA_takeL (i := 11) rfl rfl (by kernel_rfl) (by kernel_rfl) (by kernel_rfl) rfl rfl (by repeat constructor) (wn_g rfl rfl rfl rfl) (rv_cell rfl rfl ag_3 (by repeat constructor) (by rfl)) rfl ?_
        refine JA_takeP (i := 12) rfl rfl (by kernel_rfl) (by kernel_rfl) (by kernel_rfl) rfl (wn_g rfl rfl rfl rfl) (rp2 rfl rfl (fun ρ hx hy w => ex_geqD rfl hx hy)) rfl ?_
        refine JA_decF (by omega) ?_
        refine JAP (i := 13) rfl (rp_pickF rfl rfl rfl) ?_
        refine JAP (i := 14) rfl (rp_move rfl rfl) ?_
        refine JA_takeP (i := 15) rfl rfl (by kernel_rfl) (by kernel_rfl) (by kernel_rfl) rfl (wn_g rfl rfl rfl rfl) (rp_move rfl rfl) rfl ?_
        refine JA_takeP (i := 16) rfl rfl (by kernel_rfl) (by kernel_rfl) (by kernel_rfl) rfl (wn_g rfl rfl rfl rfl) (rp_move rfl rfl) rfl ?_
        refine JA_takeP (i := 17) rfl rfl (by kernel_rfl) (by kernel_rfl) (by kernel_rfl) rfl (wn_g rfl rfl rfl rfl) (rp_move rfl rfl) rfl ?_
        refine JA_takeP (i := 18) rfl rfl (by kernel_rfl) (by kernel_rfl) (by kernel_rfl) rfl (wn_g rfl rfl rfl rfl) (rp2 rfl rfl (fun ρ hx hy w => ex_indexI (k := i) rfl hx hy rfl Try.underlying26 sz_3 (by omega))) rfl ?_
        refine JA_takeL (i := 19) rfl rfl (by kernel_rfl) (by kernel_rfl) (by kernel_rfl) rfl rfl (by repeat constructor) (wn_g rfl rfl rfl rfl) (rv_ownE (k := 1) (j := i) (L := PL) EI rfl rfl ag_3 (by repeat constructor) (by omega) (by omega) (by rw [hx]; rfl)) rfl ?_
        refine JA_takeL (i := 20) rfl rfl (by kernel_rfl) (by kernel_rfl) (by kernel_rfl) rfl rfl (by repeat constructor) (wn_g rfl rfl rfl rfl) (rv_lookI ((x : Nat) : Int) rfl rfl rfl (by repeat constructor) (by unfold W64; omega)) rfl ?_
        refine JA_boolF hno ?_
        refine JAP (i := 21) rfl (rp_pickF rfl rfl rfl) ?_
        refine JA_done (by kernel_rfl) ?_
        refine JQ_then_n ?_
        refine J_no rfl rfl ?_
        refine J_skip ?_
        refine JQ_then_n ?_
        refine J_keep (l' := [(4, _), (25, _), (26, _), (27, _)]) ⟨rfl, rfl, rfl, rfl, trivial⟩ ?_
        refine J_reg ?_
        refine JM rfl rfl rfl rfl rfl ?_
        refine JM rfl rfl rfl rfl rfl ?_
        refine JM rfl rfl rfl rfl rfl ?_
        refine JP (rp2 rfl rfl (fun ρ hx hy w => ex_indexI (k := i) rfl hx hy rfl Try.underlying26 sz_3 (by omega))) ?_
        refine JV (rv_ownE (k := 1) (j := i) (L := PL) EI rfl rfl ag_3 (by repeat constructor) (by omega) (by omega) (by rw [hx]; rfl)) ?_
        refine JL_op (wn0 rfl) (ow_putI ((x : Nat) : Int) rfl rfl rfl rfl rfl rfl (by repeat constructor) (by unfold W64; omega) (by rw [List.length_reverse, List.length_take]; omega)) (fun _ _ => ?_)
        refine JL_nil ?_
        refine JQ_block_n ?_
        refine JQ_then_n ?_
        refine J_keep (l' := [(4, _), (25, _), (26, _), (27, _)]) ⟨rfl, rfl, rfl, rfl, trivial⟩ ?_
        refine J_reg ?_
        refine JM rfl rfl rfl rfl rfl ?_
        refine JP (rp2 rfl rfl (fun ρ hx hy w => ex_add rfl hx hy (by omega))) ?_
        refine JN rfl rfl rfl rfl rfl ?_
        refine JL_nil ?_
        have hsn : (PL.take (i + 1)).reverse = ((x : Nat) : Int) :: (PL.take i).reverse := by rw [List.take_succ_eq_append_getElem hlt, hx, List.reverse_append]; rfl
        exact JQ_round (i + 1) (by omega) (by omega) ⟨rfl, rfl, rfl, (congrArg some (by go_num)), trivial⟩ (by (try dsimp only); rw [hsn]; repeat (first | exact Pk.nil _ | (refine Pk.pick (by repeat (first | exact Rm.here _ | apply Rm.there)) ?_)))
       ·refine JL_nil ?_
        refine JQ_then_n ?_
        refine J_no rfl rfl ?_
        refine J_exit ?_
        refine JQ_then_x ?_
        refine JQ_then_x ?_
        refine JQ_block_y rfl ?_
        refine JQ_then_n ?_
        refine J_seq ?_
        refine J_keep (l' := []) trivial ?_
        refine J_reg ?_
        refine JL_op (wn0 rfl) (ow_callB (ec_fn rfl rfl cf_14) rfl rfl (fun w hw => awake14 w)) (fun _ _ => ?_)
        refine JN rfl rfl rfl rfl rfl ?_
        refine JL_nil ?_
        refine JQ_then_n ?_
        refine J_ret ?_
        refine JR_one rfl (rr_tmp rfl) ?_
        intro w' hw
        exact ⟨rfl, hw.bel⟩
end Go.Proofs.Ytlfbbofcnonhdaa
