/- LeagueNone: the walk. -/
import Derived.Test.YtlfbbofcnonhdaaCn
import Derived.Test.YtlfbbofcnonhdaaBp
namespace Go.Proofs.Ytlfbbofcnonhdaa
open Go Go.RowKit Go.Proofs

set_option maxRecDepth 100000 in
set_option maxHeartbeats 4000000 in
theorem None_law (T : Int) (A : Option Addr) (n c : Nat) (A2 : Option Addr) (n2 c2 : Nat) (Al : Option Addr) (nl cl : Nat) (w : World) (h1 : RowP 4 eG (fun g : Gm => W2 g.1 ∧ W2 g.2) w A n c) (h2 : RowP 2 eP W2 w A2 n2 c2) (h3 : RowP 2 eP W2 w Al nl cl) : Calls Try.prog 12 #[Brv T A n c A2 n2 c2, .slice Al nl cl] w (Back (.bool true) w) := by
 refine J_enter (fun _ => False) (vs := [Brv T A n c A2 n2 c2, .slice Al nl cl]) (k := 165) (l := [(0, Brv T A n c A2 n2 c2), (1, .slice Al nl cl)]) Try.func12 rfl rfl Try.ntmps12 rfl rfl (Wd.start _) ?_
 refine J_seq ?_
 refine J_reg ?_
 refine JL_op (wn0 rfl) (ow_box (vs := [_, _, _]) rfl rfl rfl rfl rfl) (fun b2 hb2 => ?_)
 refine JN rfl rfl rfl rfl rfl ?_
 refine JL_nil ?_
 refine JQ_then_n ?_
 refine J_seq ?_
 refine J_reg ?_
 refine JN rfl rfl rfl rfl rfl ?_
 refine JL_nil ?_
 refine JQ_then_n ?_
 refine J_seq ?_
 refine J_reg ?_
 refine JM rfl rfl rfl rfl rfl ?_
 refine JP (rp_buildC (fun us => [.int .i64 0, .slice none 0 0, .slice none 0 0, .map none]) rfl rfl (fun w => by kernel_rfl)) ?_
 refine JL_op (wn0 rfl) (ow_box (vs := [_, _, _, _]) rfl rfl rfl rfl rfl) (fun b20 hb20 => ?_)
 refine JL_op (wn0 rfl) (ow_sliceC (vs := [_, _]) (ty := 63) rfl rfl (by rfl) rfl rfl (fun _ => by kernel_rfl)) (fun b21 hb21 => ?_)
 refine JN rfl rfl rfl rfl rfl ?_
 refine JL_nil ?_
 refine JQ_then_n ?_
 refine J_seq ?_
 refine J_seq ?_
 refine J_keep (l' := [(1, _), (2, _), (6, _)]) ⟨rfl, rfl, rfl, trivial⟩ ?_
 refine J_reg ?_
 refine JN rfl rfl rfl rfl rfl ?_
 refine JL_nil ?_
 refine JQ_then_n ?_
 refine J_block ?_
 refine J_loop (T := Nat) (fun q => q ≤ 2) (fun q => [(1, .slice Al nl cl), (2, .pointer (some ⟨b2, 0, none⟩)), (6, .slice (some ⟨b21, 0, none⟩) 2 2), (7, .int .i64 (q : Nat))]) (fun q => [cellB b21 [.pointer none, .pointer (some ⟨b20, 0, none⟩)] 63, cellB b20 [.int .i64 0, .slice none 0 0, .slice none 0 0, .map none] 86, cellB b2 [.int .i64 T, .slice A n c, .slice A2 n2 c2] 25]) (fun q => 2 - q) 0 (Nat.zero_le _) ⟨rfl, rfl, rfl, rfl, trivial⟩ (by repeat constructor) ?_
 rintro q hq2
 refine J_seq ?_
 refine J_seq ?_
 refine J_reg ?_
 refine JM rfl rfl rfl rfl rfl ?_
 refine JP (rp2 rfl rfl (fun ρ hx hy w => ex_lssD rfl hx hy)) ?_
 refine JL_dec (fun h23 => ?_) (fun h23 => ?_)
 ·refine JL_nil ?_
  refine JQ_then_n ?_
  refine J_yes rfl rfl ?_
  refine J_skip ?_
  refine JQ_then_n ?_
  refine J_seq ?_
  refine J_block ?_
  refine J_seq ?_
  have hq3 : q = 0 ∨ q = 1 := by omega
  rcases hq3 with rfl | rfl
  ·refine J_reg ?_
   refine JM rfl rfl rfl rfl rfl ?_
   refine JM rfl rfl rfl rfl rfl ?_
   refine JP (rp2 rfl rfl (fun ρ hx hy w => ex_indexE rfl hx hy Try.underlying87 sz_63 (by omega))) ?_
   refine JV (rv_cell (vs := [.pointer none, .pointer (some ⟨b20, 0, none⟩)]) rfl rfl ag_63 (by repeat constructor) rfl) ?_
   refine JL_op (wn0 rfl) (ow_callB (ec_fn rfl rfl cf_35) rfl rfl (fun w hw => Teams35_nil _ w (fun w' _ => is73_nil w') 0)) (fun _ _ => ?_)
   refine JM rfl rfl rfl rfl rfl ?_
   refine JP (rp_run1 (f := fun u => Instr.extract u 0) (fun _ => rfl) rfl (fun _ => rfl)) ?_
   refine JP (rp_run1 (f := fun u => Instr.extract u 1) (fun _ => rfl) rfl (fun _ => rfl)) ?_
   refine JP (rp_run1 (f := fun u => Instr.extract u 2) (fun _ => rfl) rfl (fun _ => rfl)) ?_
   refine JN rfl rfl rfl rfl rfl ?_
   refine JN rfl rfl rfl rfl rfl ?_
   refine JN rfl rfl rfl rfl rfl ?_
   refine JL_nil ?_
   refine JQ_then_n ?_
   refine J_seq ?_
   refine J_keep (l' := [(1, _), (2, _), (6, _), (7, _), (10, _)]) ⟨rfl, rfl, rfl, rfl, rfl, trivial⟩ ?_
   refine J_draw [3, 14, 20] (by kernel_rfl) ?_
   refine JAP (i := 0) rfl (rp_move rfl rfl) ?_
   refine JAP (i := 1) rfl (rp_move rfl rfl) ?_
   refine JAP (i := 2) rfl (rp2 rfl rfl (fun ρ hx hy w => ex_indexE rfl hx hy Try.underlying87 sz_63 (by omega))) ?_
   refine JAL (i := 3) rfl (rv_cell (vs := [.pointer none, .pointer (some ⟨b20, 0, none⟩)]) rfl rfl ag_63 (by repeat constructor) rfl) ?_
   refine JA_one (i := 4) (by kernel_rfl) rfl (wn0 rfl) (ow_callB (ec_fn rfl rfl cf_36) rfl rfl (fun w hw => report36_nil _ w (fun w' _ => is73_nil w') 0 0)) trivial (fun _ _ => ?_)
   refine JAP (i := 5) rfl (rp2 rfl rfl (fun ρ hx hy w => ex_neq29 rfl hx hy)) ?_
   refine JA_decF (fun h => h rfl) ?_
   refine JAP (i := 6) rfl (rp_move rfl rfl) ?_
   refine JA_takeP (i := 7) rfl rfl (by kernel_rfl) (by kernel_rfl) (by kernel_rfl) rfl (wn_g rfl rfl rfl rfl) (rp_move rfl rfl) rfl ?_
   refine JA_takeP (i := 8) rfl rfl (by kernel_rfl) (by kernel_rfl) (by kernel_rfl) rfl (wn_g rfl rfl rfl rfl) (rp2 rfl rfl (fun ρ hx hy w => ex_neq29 rfl hx hy)) rfl ?_
   refine JA_decF (fun h => h rfl) ?_
   refine JAP (i := 9) rfl (rp_pickF rfl rfl rfl) ?_
   refine JAP (i := 10) rfl (rp_move rfl rfl) ?_
   refine JA_takeP (i := 11) rfl rfl (by kernel_rfl) (by kernel_rfl) (by kernel_rfl) rfl (wn_g rfl rfl rfl rfl) (rp_move rfl rfl) rfl ?_
   refine JA_takeP (i := 12) rfl rfl (by kernel_rfl) (by kernel_rfl) (by kernel_rfl) rfl (wn_g rfl rfl rfl rfl) (rp_move rfl rfl) rfl ?_
   refine JA_takeP (i := 13) rfl rfl (by kernel_rfl) (by kernel_rfl) (by kernel_rfl) rfl (wn_g rfl rfl rfl rfl) (rp2 rfl rfl (fun ρ hx hy w => ex_indexE rfl hx hy Try.underlying87 sz_63 (by omega))) rfl ?_
   refine JA_takeL (i := 14) rfl rfl (by kernel_rfl) (by kernel_rfl) (by kernel_rfl) rfl rfl (by repeat constructor) (wn_g rfl rfl rfl rfl) (rv_cell (vs := [.pointer none, .pointer (some ⟨b20, 0, none⟩)]) rfl rfl ag_63 (by repeat constructor) rfl) rfl ?_
   refine JA_takeP (i := 17) rfl rfl (by kernel_rfl) (by kernel_rfl) (by kernel_rfl) rfl (wn_g rfl rfl rfl rfl) (rp_move rfl rfl) rfl ?_
   refine JA_takeP (i := 18) rfl rfl (by kernel_rfl) (by kernel_rfl) (by kernel_rfl) rfl (wn_g rfl rfl rfl rfl) (rp_move rfl rfl) rfl ?_
   refine JA_takeP (i := 19) rfl rfl (by kernel_rfl) (by kernel_rfl) (by kernel_rfl) rfl (wn_g rfl rfl rfl rfl) (rp2 rfl rfl (fun ρ hx hy w => ex_indexE rfl hx hy Try.underlying87 sz_63 (by omega))) rfl ?_
   refine JA_takeL (i := 20) rfl rfl (by kernel_rfl) (by kernel_rfl) (by kernel_rfl) rfl rfl (by repeat constructor) (wn_g rfl rfl rfl rfl) (rv_cell (vs := [.pointer none, .pointer (some ⟨b20, 0, none⟩)]) rfl rfl ag_63 (by repeat constructor) rfl) rfl ?_
   refine JA_one (i := 15) (by kernel_rfl) rfl (wn_g rfl rfl rfl rfl) (ow_callB (ec_fn rfl rfl cf_40) rfl rfl (fun w hw => Ready40_nil _ w (fun w' _ => is73_nil w'))) trivial (fun _ _ => ?_)
   refine JA_takeP (i := 16) rfl rfl (by kernel_rfl) (by kernel_rfl) (by kernel_rfl) rfl (wn_g rfl rfl rfl rfl) (rp1 rfl (fun ρ hx w => ex_len (A := _) (c := _) rfl Try.underlying26 hx)) rfl ?_
   refine JA_one (i := 21) (by kernel_rfl) rfl (wn_g rfl rfl rfl rfl) (ow_callB (ec_fn rfl rfl cf_38) rfl rfl (fun w hw => places38_nil _ w (fun w' _ => is73_nil w'))) trivial (fun _ _ => ?_)
   refine JA_takeP (i := 22) rfl rfl (by kernel_rfl) (by kernel_rfl) (by kernel_rfl) rfl (wn_g rfl rfl rfl rfl) (rp1 rfl (fun ρ hx w => ex_len (A := _) (c := _) rfl Try.underlying26 hx)) rfl ?_
   refine JA_takeP (i := 23) rfl rfl (by kernel_rfl) (by kernel_rfl) (by kernel_rfl) rfl (wn_g rfl rfl rfl rfl) (rp2 rfl rfl (fun ρ hx hy w => ex_add rfl hx hy (by omega))) rfl ?_
   refine JA_takeP (i := 24) rfl rfl (by kernel_rfl) (by kernel_rfl) (by kernel_rfl) rfl (wn_g rfl rfl rfl rfl) (rp2 rfl rfl (fun ρ hx hy w => ex_neqD rfl hx hy)) rfl ?_
   refine JA_decF (by decide) ?_
   refine JAP (i := 25) rfl (rp_pickF rfl rfl rfl) ?_
   refine JA_done (by kernel_rfl) ?_
   refine JQ_then_n ?_
   refine J_no rfl rfl ?_
   refine J_skip ?_
   refine JQ_block_n ?_
   refine JQ_then_n ?_
   refine J_keep (l' := [(1, _), (2, _), (6, _), (7, _)]) ⟨rfl, rfl, rfl, rfl, trivial⟩ ?_
   refine J_reg ?_
   refine JM rfl rfl rfl rfl rfl ?_
   refine JP (rp2 rfl rfl (fun ρ hx hy w => ex_add rfl hx hy (by omega))) ?_
   refine JN rfl rfl rfl rfl rfl ?_
   refine JL_nil ?_
   exact JQ_round (0 + 1) (by omega) (by omega) ⟨rfl, rfl, rfl, (congrArg some (by go_num)), trivial⟩ (by repeat constructor)
  ·refine J_reg ?_
   refine JM rfl rfl rfl rfl rfl ?_
   refine JM rfl rfl rfl rfl rfl ?_
   refine JP (rp2 rfl rfl (fun ρ hx hy w => ex_indexE rfl hx hy Try.underlying87 sz_63 (by omega))) ?_
   refine JV (rv_cell (vs := [.pointer none, .pointer (some ⟨b20, 0, none⟩)]) rfl rfl ag_63 (by repeat constructor) rfl) ?_
   refine JL_op (wn0 rfl) (ow_callB (ec_fn rfl rfl cf_35) rfl rfl (fun w hw => Teams35_nil _ w (fun w' hb => is73_zero w' b20 (upc (cellB_get (hw.ok (cellB b20 [.int .i64 0, .slice none 0 0, .slice none 0 0, .map none] 86) (by repeat constructor)).1 rfl) hb)) 0)) (fun _ _ => ?_)
   refine JM rfl rfl rfl rfl rfl ?_
   refine JP (rp_run1 (f := fun u => Instr.extract u 0) (fun _ => rfl) rfl (fun _ => rfl)) ?_
   refine JP (rp_run1 (f := fun u => Instr.extract u 1) (fun _ => rfl) rfl (fun _ => rfl)) ?_
   refine JP (rp_run1 (f := fun u => Instr.extract u 2) (fun _ => rfl) rfl (fun _ => rfl)) ?_
   refine JN rfl rfl rfl rfl rfl ?_
   refine JN rfl rfl rfl rfl rfl ?_
   refine JN rfl rfl rfl rfl rfl ?_
   refine JL_nil ?_
   refine JQ_then_n ?_
   refine J_seq ?_
   refine J_keep (l' := [(1, _), (2, _), (6, _), (7, _), (10, _)]) ⟨rfl, rfl, rfl, rfl, rfl, trivial⟩ ?_
   refine J_draw [3, 14, 20] (by kernel_rfl) ?_
   refine JAP (i := 0) rfl (rp_move rfl rfl) ?_
   refine JAP (i := 1) rfl (rp_move rfl rfl) ?_
   refine JAP (i := 2) rfl (rp2 rfl rfl (fun ρ hx hy w => ex_indexE rfl hx hy Try.underlying87 sz_63 (by omega))) ?_
   refine JAL (i := 3) rfl (rv_cell (vs := [.pointer none, .pointer (some ⟨b20, 0, none⟩)]) rfl rfl ag_63 (by repeat constructor) rfl) ?_
   refine JA_one (i := 4) (by kernel_rfl) rfl (wn0 rfl) (ow_callB (ec_fn rfl rfl cf_36) rfl rfl (fun w hw => report36_nil _ w (fun w' hb => is73_zero w' b20 (upc (cellB_get (hw.ok (cellB b20 [.int .i64 0, .slice none 0 0, .slice none 0 0, .map none] 86) (by repeat constructor)).1 rfl) hb)) 0 0)) trivial (fun _ _ => ?_)
   refine JAP (i := 5) rfl (rp2 rfl rfl (fun ρ hx hy w => ex_neq29 rfl hx hy)) ?_
   refine JA_decF (fun h => h rfl) ?_
   refine JAP (i := 6) rfl (rp_move rfl rfl) ?_
   refine JA_takeP (i := 7) rfl rfl (by kernel_rfl) (by kernel_rfl) (by kernel_rfl) rfl (wn_g rfl rfl rfl rfl) (rp_move rfl rfl) rfl ?_
   refine JA_takeP (i := 8) rfl rfl (by kernel_rfl) (by kernel_rfl) (by kernel_rfl) rfl (wn_g rfl rfl rfl rfl) (rp2 rfl rfl (fun ρ hx hy w => ex_neq29 rfl hx hy)) rfl ?_
   refine JA_decF (fun h => h rfl) ?_
   refine JAP (i := 9) rfl (rp_pickF rfl rfl rfl) ?_
   refine JAP (i := 10) rfl (rp_move rfl rfl) ?_
   refine JA_takeP (i := 11) rfl rfl (by kernel_rfl) (by kernel_rfl) (by kernel_rfl) rfl (wn_g rfl rfl rfl rfl) (rp_move rfl rfl) rfl ?_
   refine JA_takeP (i := 12) rfl rfl (by kernel_rfl) (by kernel_rfl) (by kernel_rfl) rfl (wn_g rfl rfl rfl rfl) (rp_move rfl rfl) rfl ?_
   refine JA_takeP (i := 13) rfl rfl (by kernel_rfl) (by kernel_rfl) (by kernel_rfl) rfl (wn_g rfl rfl rfl rfl) (rp2 rfl rfl (fun ρ hx hy w => ex_indexE rfl hx hy Try.underlying87 sz_63 (by omega))) rfl ?_
   refine JA_takeL (i := 14) rfl rfl (by kernel_rfl) (by kernel_rfl) (by kernel_rfl) rfl rfl (by repeat constructor) (wn_g rfl rfl rfl rfl) (rv_cell (vs := [.pointer none, .pointer (some ⟨b20, 0, none⟩)]) rfl rfl ag_63 (by repeat constructor) rfl) rfl ?_
   refine JA_takeP (i := 17) rfl rfl (by kernel_rfl) (by kernel_rfl) (by kernel_rfl) rfl (wn_g rfl rfl rfl rfl) (rp_move rfl rfl) rfl ?_
   refine JA_takeP (i := 18) rfl rfl (by kernel_rfl) (by kernel_rfl) (by kernel_rfl) rfl (wn_g rfl rfl rfl rfl) (rp_move rfl rfl) rfl ?_
   refine JA_takeP (i := 19) rfl rfl (by kernel_rfl) (by kernel_rfl) (by kernel_rfl) rfl (wn_g rfl rfl rfl rfl) (rp2 rfl rfl (fun ρ hx hy w => ex_indexE rfl hx hy Try.underlying87 sz_63 (by omega))) rfl ?_
   refine JA_takeL (i := 20) rfl rfl (by kernel_rfl) (by kernel_rfl) (by kernel_rfl) rfl rfl (by repeat constructor) (wn_g rfl rfl rfl rfl) (rv_cell (vs := [.pointer none, .pointer (some ⟨b20, 0, none⟩)]) rfl rfl ag_63 (by repeat constructor) rfl) rfl ?_
   refine JA_one (i := 15) (by kernel_rfl) rfl (wn_g rfl rfl rfl rfl) (ow_callB (ec_fn rfl rfl cf_40) rfl rfl (fun w hw => Ready40_nil _ w (fun w' hb => is73_zero w' b20 (upc (cellB_get (hw.ok (cellB b20 [.int .i64 0, .slice none 0 0, .slice none 0 0, .map none] 86) (by repeat constructor)).1 rfl) hb)))) trivial (fun _ _ => ?_)
   refine JA_takeP (i := 16) rfl rfl (by kernel_rfl) (by kernel_rfl) (by kernel_rfl) rfl (wn_g rfl rfl rfl rfl) (rp1 rfl (fun ρ hx w => ex_len (A := _) (c := _) rfl Try.underlying26 hx)) rfl ?_
   refine JA_one (i := 21) (by kernel_rfl) rfl (wn_g rfl rfl rfl rfl) (ow_callB (ec_fn rfl rfl cf_38) rfl rfl (fun w hw => places38_nil _ w (fun w' hb => is73_zero w' b20 (upc (cellB_get (hw.ok (cellB b20 [.int .i64 0, .slice none 0 0, .slice none 0 0, .map none] 86) (by repeat constructor)).1 rfl) hb)))) trivial (fun _ _ => ?_)
   refine JA_takeP (i := 22) rfl rfl (by kernel_rfl) (by kernel_rfl) (by kernel_rfl) rfl (wn_g rfl rfl rfl rfl) (rp1 rfl (fun ρ hx w => ex_len (A := _) (c := _) rfl Try.underlying26 hx)) rfl ?_
   refine JA_takeP (i := 23) rfl rfl (by kernel_rfl) (by kernel_rfl) (by kernel_rfl) rfl (wn_g rfl rfl rfl rfl) (rp2 rfl rfl (fun ρ hx hy w => ex_add rfl hx hy (by omega))) rfl ?_
   refine JA_takeP (i := 24) rfl rfl (by kernel_rfl) (by kernel_rfl) (by kernel_rfl) rfl (wn_g rfl rfl rfl rfl) (rp2 rfl rfl (fun ρ hx hy w => ex_neqD rfl hx hy)) rfl ?_
   refine JA_decF (by decide) ?_
   refine JAP (i := 25) rfl (rp_pickF rfl rfl rfl) ?_
   refine JA_done (by kernel_rfl) ?_
   refine JQ_then_n ?_
   refine J_no rfl rfl ?_
   refine J_skip ?_
   refine JQ_block_n ?_
   refine JQ_then_n ?_
   refine J_keep (l' := [(1, _), (2, _), (6, _), (7, _)]) ⟨rfl, rfl, rfl, rfl, trivial⟩ ?_
   refine J_reg ?_
   refine JM rfl rfl rfl rfl rfl ?_
   refine JP (rp2 rfl rfl (fun ρ hx hy w => ex_add rfl hx hy (by omega))) ?_
   refine JN rfl rfl rfl rfl rfl ?_
   refine JL_nil ?_
   exact JQ_round (1 + 1) (by omega) (by omega) ⟨rfl, rfl, rfl, (congrArg some (by go_num)), trivial⟩ (by repeat constructor)
 ·refine JL_nil ?_
  refine JQ_then_n ?_
  refine J_no rfl rfl ?_
  refine J_exit ?_
  refine JQ_then_x ?_
  refine JQ_then_x ?_
  refine JQ_block_y rfl ?_
  refine JQ_then_n ?_
  refine J_seq ?_
  refine J_seq ?_
  refine J_keep (l' := [(1, _), (2, _)]) ⟨rfl, rfl, trivial⟩ ?_
  refine J_reg ?_
  refine JV (rv_agg (cs := [_, _, _]) rfl rfl ag_25 sz_25 (by repeat constructor) (by rfl)) ?_
  refine JL_op (wn0 rfl) (ow_callB (ec_fn rfl rfl cf_13) rfl rfl (fun w hw => (by have := great13 T (List.replicate n ((0, 0), (0, 0))) (List.replicate n2 (0, 0)) w A A2 c c2; simp only [List.length_replicate] at this; exact this))) (fun _ _ => ?_)
  refine JL_bool (fun h62 => ?_) (fun h62 => ?_)
  ·refine JM rfl rfl rfl rfl rfl ?_
   refine JF ?_
   refine JF ?_
   refine JF ?_
   refine JP (rp_pickT rfl rfl rfl) ?_
   refine JM rfl rfl rfl rfl rfl ?_
   refine JF ?_
   refine JF ?_
   refine JF ?_
   refine JP (rp_pickT rfl rfl rfl) ?_
   refine JL_nil ?_
   refine JQ_then_n ?_
   refine J_yes rfl rfl ?_
   refine J_seq ?_
   refine J_keep (l' := []) trivial ?_
   refine J_reg ?_
   refine JL_op (wn0 rfl) (ow_callB (ec_fn rfl rfl cf_14) rfl rfl (fun w hw => awake14 w)) (fun _ _ => ?_)
   refine JN rfl rfl rfl rfl rfl ?_
   refine JL_nil ?_
   refine JQ_then_n ?_
   refine J_ret ?_
   refine JQ_then_r ?_
   refine JR_one rfl (rr_tmp rfl) ?_
   intro w' hw
   exact ⟨rfl, hw.bel⟩
  ·refine JM rfl rfl rfl rfl rfl ?_
   refine JPg (rp_move rfl rfl) ?_
   refine JPg (rp1 rfl (fun ρ hx w => ex_len (A := _) (c := _) rfl Try.underlying75 hx)) ?_
   refine JPg (rp2 rfl rfl (fun ρ hx hy w => ex_gtrD rfl hx hy)) ?_
   refine JL_dec (fun h66 => ?_) (fun h66 => ?_)
   ·refine JP (rp_pickF rfl rfl rfl) ?_
    refine JM rfl rfl rfl rfl rfl ?_
    refine JF ?_
    refine JF ?_
    refine JF ?_
    refine JP (rp_pickT rfl rfl rfl) ?_
    refine JL_nil ?_
    refine JQ_then_n ?_
    refine J_yes rfl rfl ?_
    refine J_seq ?_
    refine J_keep (l' := []) trivial ?_
    refine J_reg ?_
    refine JL_op (wn0 rfl) (ow_callB (ec_fn rfl rfl cf_14) rfl rfl (fun w hw => awake14 w)) (fun _ _ => ?_)
    refine JN rfl rfl rfl rfl rfl ?_
    refine JL_nil ?_
    refine JQ_then_n ?_
    refine J_ret ?_
    refine JQ_then_r ?_
    refine JR_one rfl (rr_tmp rfl) ?_
    intro w' hw
    exact ⟨rfl, hw.bel⟩
   ·have hgr : n ≤ 70 ∧ n2 ≤ 20 := by
      unfold grB at h62
      simp only [List.length_replicate, Bool.or_eq_false_iff, decide_eq_false_iff_not] at h62
      omega
    obtain ⟨G, rfl, hG, hG2⟩ := h1 (by omega)
    obtain ⟨R, rfl, hR, hR2⟩ := h2 (by omega)
    obtain ⟨tl, rfl, hl, hl2⟩ := h3 (by omega)
    obtain ⟨Ag, cg, eg, -, -, hAl⟩ := id hl
    injection eg with e1 e2 e3
    subst e1 e3
    refine JP (rp_pickF rfl rfl rfl) ?_
    refine JM rfl rfl rfl rfl rfl ?_
    refine JVg (rv_agg (cs := [_, _, _]) rfl rfl ag_25 sz_25 (by repeat constructor) (by rfl)) ?_
    refine JL_op (wn_g rfl rfl rfl rfl) (ow_callB (ec_fn rfl rfl cf_18) rfl rfl (fun w hw => (by have := Check18 T G R w A A2 c c2 (hG.up EG hw.bel) (hR.up EP hw.bel) (by omega) (by omega); rw [ck_cb] at this; exact this))) (fun _ _ => ?_)
    refine JL_bool (fun h70 => ?_) (fun h70 => ?_)
    ·have hbo := (cbB_iff _ _ _).1 h70
     have hbt := hbo.t
     have hbg := hbo.g
     have hbr := hbo.r
     obtain ⟨N, hN⟩ := Int.eq_ofNat_of_zero_le (show 0 ≤ T by omega)
     subst hN
     obtain ⟨Ag1, cg1, eg1, -, -, hA1⟩ := id hG
     injection eg1 with e1 e2 e3
     subst e1 e3
     obtain ⟨bG, pG, rfl, -⟩ := hA1 (by intro e; subst e; simp at hbg)
     obtain ⟨Ag2, cg2, eg2, -, -, hA2⟩ := id hR
     injection eg2 with e1 e2 e3
     subst e1 e3
     obtain ⟨bR, pR, rfl, -⟩ := hA2 (by intro e; subst e; simp at hbr; omega)
     refine JPg (rp1 rfl (fun ρ hx w => ex_not rfl hx)) ?_
     refine JP (rp_pickF rfl rfl rfl) ?_
     refine JL_nil ?_
     refine JQ_then_n ?_
     refine J_no rfl rfl ?_
     refine J_skip ?_
     refine JQ_then_n ?_
     refine J_cut (T := Nat × Option Addr × Nat × Option Addr × Nat) (fun q => True) (fun q => [(1, .slice Al tl.length cl), (2, .pointer (some ⟨b2, 0, none⟩)), (11, .pointer (some ⟨q.1, 0, none⟩))]) (fun q => [cellB q.1 [.int .i64 (N : Nat), .slice q.2.1 G.length q.2.2.1, .slice q.2.2.2.1 R.length q.2.2.2.2] 25, ownB 90 4 q.2.1 G.length q.2.2.1 (G.flatMap eG), ownB 89 2 q.2.2.2.1 R.length q.2.2.2.2 (R.flatMap eP), cellB b2 [.int .i64 (N : Nat), .slice (some ⟨bG, pG, none⟩) G.length c, .slice (some ⟨bR, pR, none⟩) R.length c2] 25]) ?_ ?_
     ·refine J_keep (l' := [(1, _), (2, _)]) ⟨rfl, rfl, trivial⟩ ?_
      refine J_drawX [] [1, 4, 8] [cellB b2 [.int .i64 (N : Nat), .slice (some ⟨bG, pG, none⟩) G.length c, .slice (some ⟨bR, pR, none⟩) R.length c2] 25] (by repeat constructor) (by kernel_rfl) ?_
      refine JAP (i := 0) rfl (rp_fieldC (off' := 0) rfl rfl fa_25_0 rfl) ?_
      refine JAX (i := 1) rfl (rv_cell rfl rfl ag_3 (by repeat constructor) (by rfl)) ?_
      refine JAP (i := 3) rfl (rp_fieldC (off' := 1) rfl rfl fa_25_1 rfl) ?_
      refine JAX (i := 4) rfl (rv_cell rfl rfl ag_22 (by repeat constructor) (by rfl)) ?_
      refine JAP (i := 7) rfl (rp_fieldC (off' := 2) rfl rfl fa_25_2 rfl) ?_
      refine JAX (i := 8) rfl (rv_cell rfl rfl ag_23 (by repeat constructor) (by rfl)) ?_
      refine JA_three (i := 2) (j := 6) (k := 11) (by kernel_rfl) ?_ ?_ ?_
      ·refine St1_mk rfl (wn0 rfl) (ow_slice0 (k := 4) (ty := 90) rfl rfl rfl (fun _ => by kernel_rfl)) trivial (fun b76 hb76 => ?_)
       refine JA_three (i := 5) (j := 6) (k := 11) (by kernel_rfl) ?_ ?_ ?_
       ·refine St1_mk rfl (wn0 rfl) (ow_appX (L := ([] : List Gm)) (M := G) EG (by decide) Try.underlying22 Try.info90 rfl (by decide) sz_90 rfl rfl rfl rfl rfl rfl (fun e => by cases e) (Nat.le_refl 0) (fun w hw => (hG.up EG hw.bel)) (by rw [List.length_nil]; omega) (by intro A c; repeat constructor)) ⟨by kernel_rfl, .inr ⟨rfl, (by repeat constructor)⟩⟩ (fun t _ => ?_)
        obtain ⟨A79, c79⟩ := t
        dsimp only
        try dsimp only [List.nil_append]
        refine JA_pair (i := 6) (j := 11) (by kernel_rfl) ?_ ?_
        ·refine St1_mk rfl (wn0 rfl) (ow_slice0 (k := 2) (ty := 89) rfl rfl rfl (fun _ => by kernel_rfl)) trivial (fun b80 hb80 => ?_)
         refine JA_pair (i := 9) (j := 11) (by kernel_rfl) ?_ ?_
         ·refine St1_mk rfl (wn0 rfl) (ow_appX (L := ([] : List (Int × Int))) (M := R) EP (by decide) Try.underlying23 Try.info89 rfl (by decide) sz_89 rfl rfl rfl rfl rfl rfl (fun e => by cases e) (Nat.le_refl 0) (fun w hw => (hR.up EP hw.bel)) (by rw [List.length_nil]; omega) (by intro A c; repeat constructor)) ⟨by kernel_rfl, .inr ⟨rfl, (by repeat constructor)⟩⟩ (fun t _ => ?_)
          obtain ⟨A83, c83⟩ := t
          dsimp only
          try dsimp only [List.nil_append]
          refine JAP (i := 10) rfl (rp_buildC (fun us => [us.getD 0 undef, us.getD 1 undef, us.getD 2 undef]) rfl rfl (fun w => by kernel_rfl)) ?_
          refine JA_one (i := 11) (by kernel_rfl) rfl (wn0 rfl) (ow_alloc rfl rfl zv_25 rfl rfl) trivial (fun b11 hb11 => ?_)
          refine JA_one (i := 12) (by kernel_rfl) rfl (wn0 rfl) (ow_store (cs := [_, _, _]) (vs' := [_, _, _]) rfl rfl rfl rfl rfl sz_25 rfl (by repeat constructor) (by rfl) (by rfl)) ⟨by kernel_rfl, .inr ⟨rfl, (by repeat constructor)⟩⟩ (fun _ _ => ?_)
          refine JA_done (by kernel_rfl) ?_
          exact JQ_cut (b11, A79, c79, A83, c83) trivial ⟨rfl, rfl, rfl, trivial⟩ (by repeat constructor)
         ·refine St1_mk rfl (wn0 rfl) (ow_alloc rfl rfl zv_25 rfl rfl) trivial (fun b11 hb11 => ?_)
          refine JA_oneS (i := 9) (by kernel_rfl) rfl (wn0 rfl) (ow_appX (L := ([] : List (Int × Int))) (M := R) EP (by decide) Try.underlying23 Try.info89 rfl (by decide) sz_89 rfl rfl rfl rfl rfl rfl (fun e => by cases e) (Nat.le_refl 0) (fun w hw => (hR.up EP hw.bel)) (by rw [List.length_nil]; omega) (by intro A c; repeat constructor)) ⟨by kernel_rfl, .inr ⟨rfl, (by repeat constructor)⟩⟩ (fun A83 c83 => ?_)
          try dsimp only [List.nil_append]
          refine JAP (i := 10) rfl (rp_buildC (fun us => [us.getD 0 undef, us.getD 1 undef, us.getD 2 undef]) rfl rfl (fun w => by kernel_rfl)) ?_
          refine JA_one (i := 12) (by kernel_rfl) rfl (wn0 rfl) (ow_store (cs := [_, _, _]) (vs' := [_, _, _]) rfl rfl rfl rfl rfl sz_25 rfl (by repeat constructor) (by rfl) (by rfl)) ⟨by kernel_rfl, .inr ⟨rfl, (by repeat constructor)⟩⟩ (fun _ _ => ?_)
          refine JA_done (by kernel_rfl) ?_
          exact JQ_cut (b11, A79, c79, A83, c83) trivial ⟨rfl, rfl, rfl, trivial⟩ (by repeat constructor)
        ·refine St1_mk rfl (wn0 rfl) (ow_alloc rfl rfl zv_25 rfl rfl) trivial (fun b11 hb11 => ?_)
         refine JA_one (i := 6) (by kernel_rfl) rfl (wn0 rfl) (ow_slice0 (k := 2) (ty := 89) rfl rfl rfl (fun _ => by kernel_rfl)) trivial (fun b80 hb80 => ?_)
         refine JA_oneS (i := 9) (by kernel_rfl) rfl (wn0 rfl) (ow_appX (L := ([] : List (Int × Int))) (M := R) EP (by decide) Try.underlying23 Try.info89 rfl (by decide) sz_89 rfl rfl rfl rfl rfl rfl (fun e => by cases e) (Nat.le_refl 0) (fun w hw => (hR.up EP hw.bel)) (by rw [List.length_nil]; omega) (by intro A c; repeat constructor)) ⟨by kernel_rfl, .inr ⟨rfl, (by repeat constructor)⟩⟩ (fun A83 c83 => ?_)
         try dsimp only [List.nil_append]
         refine JAP (i := 10) rfl (rp_buildC (fun us => [us.getD 0 undef, us.getD 1 undef, us.getD 2 undef]) rfl rfl (fun w => by kernel_rfl)) ?_
         refine JA_one (i := 12) (by kernel_rfl) rfl (wn0 rfl) (ow_store (cs := [_, _, _]) (vs' := [_, _, _]) rfl rfl rfl rfl rfl sz_25 rfl (by repeat constructor) (by rfl) (by rfl)) ⟨by kernel_rfl, .inr ⟨rfl, (by repeat constructor)⟩⟩ (fun _ _ => ?_)
         refine JA_done (by kernel_rfl) ?_
         exact JQ_cut (b11, A79, c79, A83, c83) trivial ⟨rfl, rfl, rfl, trivial⟩ (by repeat constructor)
       ·refine St1_mk rfl (wn0 rfl) (ow_slice0 (k := 2) (ty := 89) rfl rfl rfl (fun _ => by kernel_rfl)) trivial (fun b80 hb80 => ?_)
        refine JA_pair (i := 5) (j := 11) (by kernel_rfl) ?_ ?_
        ·refine St1_mk rfl (wn0 rfl) (ow_appX (L := ([] : List Gm)) (M := G) EG (by decide) Try.underlying22 Try.info90 rfl (by decide) sz_90 rfl rfl rfl rfl rfl rfl (fun e => by cases e) (Nat.le_refl 0) (fun w hw => (hG.up EG hw.bel)) (by rw [List.length_nil]; omega) (by intro A c; repeat constructor)) ⟨by kernel_rfl, .inr ⟨rfl, (by repeat constructor)⟩⟩ (fun t _ => ?_)
         obtain ⟨A79, c79⟩ := t
         dsimp only
         try dsimp only [List.nil_append]
         refine JA_pair (i := 9) (j := 11) (by kernel_rfl) ?_ ?_
         ·refine St1_mk rfl (wn0 rfl) (ow_appX (L := ([] : List (Int × Int))) (M := R) EP (by decide) Try.underlying23 Try.info89 rfl (by decide) sz_89 rfl rfl rfl rfl rfl rfl (fun e => by cases e) (Nat.le_refl 0) (fun w hw => (hR.up EP hw.bel)) (by rw [List.length_nil]; omega) (by intro A c; repeat constructor)) ⟨by kernel_rfl, .inr ⟨rfl, (by repeat constructor)⟩⟩ (fun t _ => ?_)
          obtain ⟨A83, c83⟩ := t
          dsimp only
          try dsimp only [List.nil_append]
          refine JAP (i := 10) rfl (rp_buildC (fun us => [us.getD 0 undef, us.getD 1 undef, us.getD 2 undef]) rfl rfl (fun w => by kernel_rfl)) ?_
          refine JA_one (i := 11) (by kernel_rfl) rfl (wn0 rfl) (ow_alloc rfl rfl zv_25 rfl rfl) trivial (fun b11 hb11 => ?_)
          refine JA_one (i := 12) (by kernel_rfl) rfl (wn0 rfl) (ow_store (cs := [_, _, _]) (vs' := [_, _, _]) rfl rfl rfl rfl rfl sz_25 rfl (by repeat constructor) (by rfl) (by rfl)) ⟨by kernel_rfl, .inr ⟨rfl, (by repeat constructor)⟩⟩ (fun _ _ => ?_)
          refine JA_done (by kernel_rfl) ?_
          exact JQ_cut (b11, A79, c79, A83, c83) trivial ⟨rfl, rfl, rfl, trivial⟩ (by repeat constructor)
         ·refine St1_mk rfl (wn0 rfl) (ow_alloc rfl rfl zv_25 rfl rfl) trivial (fun b11 hb11 => ?_)
          refine JA_oneS (i := 9) (by kernel_rfl) rfl (wn0 rfl) (ow_appX (L := ([] : List (Int × Int))) (M := R) EP (by decide) Try.underlying23 Try.info89 rfl (by decide) sz_89 rfl rfl rfl rfl rfl rfl (fun e => by cases e) (Nat.le_refl 0) (fun w hw => (hR.up EP hw.bel)) (by rw [List.length_nil]; omega) (by intro A c; repeat constructor)) ⟨by kernel_rfl, .inr ⟨rfl, (by repeat constructor)⟩⟩ (fun A83 c83 => ?_)
          try dsimp only [List.nil_append]
          refine JAP (i := 10) rfl (rp_buildC (fun us => [us.getD 0 undef, us.getD 1 undef, us.getD 2 undef]) rfl rfl (fun w => by kernel_rfl)) ?_
          refine JA_one (i := 12) (by kernel_rfl) rfl (wn0 rfl) (ow_store (cs := [_, _, _]) (vs' := [_, _, _]) rfl rfl rfl rfl rfl sz_25 rfl (by repeat constructor) (by rfl) (by rfl)) ⟨by kernel_rfl, .inr ⟨rfl, (by repeat constructor)⟩⟩ (fun _ _ => ?_)
          refine JA_done (by kernel_rfl) ?_
          exact JQ_cut (b11, A79, c79, A83, c83) trivial ⟨rfl, rfl, rfl, trivial⟩ (by repeat constructor)
        ·refine St1_mk rfl (wn0 rfl) (ow_alloc rfl rfl zv_25 rfl rfl) trivial (fun b11 hb11 => ?_)
         refine JA_oneS (i := 5) (by kernel_rfl) rfl (wn0 rfl) (ow_appX (L := ([] : List Gm)) (M := G) EG (by decide) Try.underlying22 Try.info90 rfl (by decide) sz_90 rfl rfl rfl rfl rfl rfl (fun e => by cases e) (Nat.le_refl 0) (fun w hw => (hG.up EG hw.bel)) (by rw [List.length_nil]; omega) (by intro A c; repeat constructor)) ⟨by kernel_rfl, .inr ⟨rfl, (by repeat constructor)⟩⟩ (fun A79 c79 => ?_)
         try dsimp only [List.nil_append]
         refine JA_oneS (i := 9) (by kernel_rfl) rfl (wn0 rfl) (ow_appX (L := ([] : List (Int × Int))) (M := R) EP (by decide) Try.underlying23 Try.info89 rfl (by decide) sz_89 rfl rfl rfl rfl rfl rfl (fun e => by cases e) (Nat.le_refl 0) (fun w hw => (hR.up EP hw.bel)) (by rw [List.length_nil]; omega) (by intro A c; repeat constructor)) ⟨by kernel_rfl, .inr ⟨rfl, (by repeat constructor)⟩⟩ (fun A83 c83 => ?_)
         try dsimp only [List.nil_append]
         refine JAP (i := 10) rfl (rp_buildC (fun us => [us.getD 0 undef, us.getD 1 undef, us.getD 2 undef]) rfl rfl (fun w => by kernel_rfl)) ?_
         refine JA_one (i := 12) (by kernel_rfl) rfl (wn0 rfl) (ow_store (cs := [_, _, _]) (vs' := [_, _, _]) rfl rfl rfl rfl rfl sz_25 rfl (by repeat constructor) (by rfl) (by rfl)) ⟨by kernel_rfl, .inr ⟨rfl, (by repeat constructor)⟩⟩ (fun _ _ => ?_)
         refine JA_done (by kernel_rfl) ?_
         exact JQ_cut (b11, A79, c79, A83, c83) trivial ⟨rfl, rfl, rfl, trivial⟩ (by repeat constructor)
       ·refine St1_mk rfl (wn0 rfl) (ow_alloc rfl rfl zv_25 rfl rfl) trivial (fun b11 hb11 => ?_)
        refine JA_pair (i := 5) (j := 6) (by kernel_rfl) ?_ ?_
        ·refine St1_mk rfl (wn0 rfl) (ow_appX (L := ([] : List Gm)) (M := G) EG (by decide) Try.underlying22 Try.info90 rfl (by decide) sz_90 rfl rfl rfl rfl rfl rfl (fun e => by cases e) (Nat.le_refl 0) (fun w hw => (hG.up EG hw.bel)) (by rw [List.length_nil]; omega) (by intro A c; repeat constructor)) ⟨by kernel_rfl, .inr ⟨rfl, (by repeat constructor)⟩⟩ (fun t _ => ?_)
         obtain ⟨A79, c79⟩ := t
         dsimp only
         try dsimp only [List.nil_append]
         refine JA_one (i := 6) (by kernel_rfl) rfl (wn0 rfl) (ow_slice0 (k := 2) (ty := 89) rfl rfl rfl (fun _ => by kernel_rfl)) trivial (fun b80 hb80 => ?_)
         refine JA_oneS (i := 9) (by kernel_rfl) rfl (wn0 rfl) (ow_appX (L := ([] : List (Int × Int))) (M := R) EP (by decide) Try.underlying23 Try.info89 rfl (by decide) sz_89 rfl rfl rfl rfl rfl rfl (fun e => by cases e) (Nat.le_refl 0) (fun w hw => (hR.up EP hw.bel)) (by rw [List.length_nil]; omega) (by intro A c; repeat constructor)) ⟨by kernel_rfl, .inr ⟨rfl, (by repeat constructor)⟩⟩ (fun A83 c83 => ?_)
         try dsimp only [List.nil_append]
         refine JAP (i := 10) rfl (rp_buildC (fun us => [us.getD 0 undef, us.getD 1 undef, us.getD 2 undef]) rfl rfl (fun w => by kernel_rfl)) ?_
         refine JA_one (i := 12) (by kernel_rfl) rfl (wn0 rfl) (ow_store (cs := [_, _, _]) (vs' := [_, _, _]) rfl rfl rfl rfl rfl sz_25 rfl (by repeat constructor) (by rfl) (by rfl)) ⟨by kernel_rfl, .inr ⟨rfl, (by repeat constructor)⟩⟩ (fun _ _ => ?_)
         refine JA_done (by kernel_rfl) ?_
         exact JQ_cut (b11, A79, c79, A83, c83) trivial ⟨rfl, rfl, rfl, trivial⟩ (by repeat constructor)
        ·refine St1_mk rfl (wn0 rfl) (ow_slice0 (k := 2) (ty := 89) rfl rfl rfl (fun _ => by kernel_rfl)) trivial (fun b80 hb80 => ?_)
         refine JA_oneS (i := 5) (by kernel_rfl) rfl (wn0 rfl) (ow_appX (L := ([] : List Gm)) (M := G) EG (by decide) Try.underlying22 Try.info90 rfl (by decide) sz_90 rfl rfl rfl rfl rfl rfl (fun e => by cases e) (Nat.le_refl 0) (fun w hw => (hG.up EG hw.bel)) (by rw [List.length_nil]; omega) (by intro A c; repeat constructor)) ⟨by kernel_rfl, .inr ⟨rfl, (by repeat constructor)⟩⟩ (fun A79 c79 => ?_)
         try dsimp only [List.nil_append]
         refine JA_oneS (i := 9) (by kernel_rfl) rfl (wn0 rfl) (ow_appX (L := ([] : List (Int × Int))) (M := R) EP (by decide) Try.underlying23 Try.info89 rfl (by decide) sz_89 rfl rfl rfl rfl rfl rfl (fun e => by cases e) (Nat.le_refl 0) (fun w hw => (hR.up EP hw.bel)) (by rw [List.length_nil]; omega) (by intro A c; repeat constructor)) ⟨by kernel_rfl, .inr ⟨rfl, (by repeat constructor)⟩⟩ (fun A83 c83 => ?_)
         try dsimp only [List.nil_append]
         refine JAP (i := 10) rfl (rp_buildC (fun us => [us.getD 0 undef, us.getD 1 undef, us.getD 2 undef]) rfl rfl (fun w => by kernel_rfl)) ?_
         refine JA_one (i := 12) (by kernel_rfl) rfl (wn0 rfl) (ow_store (cs := [_, _, _]) (vs' := [_, _, _]) rfl rfl rfl rfl rfl sz_25 rfl (by repeat constructor) (by rfl) (by rfl)) ⟨by kernel_rfl, .inr ⟨rfl, (by repeat constructor)⟩⟩ (fun _ _ => ?_)
         refine JA_done (by kernel_rfl) ?_
         exact JQ_cut (b11, A79, c79, A83, c83) trivial ⟨rfl, rfl, rfl, trivial⟩ (by repeat constructor)
      ·refine St1_mk rfl (wn0 rfl) (ow_slice0 (k := 2) (ty := 89) rfl rfl rfl (fun _ => by kernel_rfl)) trivial (fun b80 hb80 => ?_)
       refine JA_pair (i := 2) (j := 11) (by kernel_rfl) ?_ ?_
       ·refine St1_mk rfl (wn0 rfl) (ow_slice0 (k := 4) (ty := 90) rfl rfl rfl (fun _ => by kernel_rfl)) trivial (fun b76 hb76 => ?_)
        refine JA_pair (i := 5) (j := 11) (by kernel_rfl) ?_ ?_
        ·refine St1_mk rfl (wn0 rfl) (ow_appX (L := ([] : List Gm)) (M := G) EG (by decide) Try.underlying22 Try.info90 rfl (by decide) sz_90 rfl rfl rfl rfl rfl rfl (fun e => by cases e) (Nat.le_refl 0) (fun w hw => (hG.up EG hw.bel)) (by rw [List.length_nil]; omega) (by intro A c; repeat constructor)) ⟨by kernel_rfl, .inr ⟨rfl, (by repeat constructor)⟩⟩ (fun t _ => ?_)
         obtain ⟨A79, c79⟩ := t
         dsimp only
         try dsimp only [List.nil_append]
         refine JA_pair (i := 9) (j := 11) (by kernel_rfl) ?_ ?_
         ·refine St1_mk rfl (wn0 rfl) (ow_appX (L := ([] : List (Int × Int))) (M := R) EP (by decide) Try.underlying23 Try.info89 rfl (by decide) sz_89 rfl rfl rfl rfl rfl rfl (fun e => by cases e) (Nat.le_refl 0) (fun w hw => (hR.up EP hw.bel)) (by rw [List.length_nil]; omega) (by intro A c; repeat constructor)) ⟨by kernel_rfl, .inr ⟨rfl, (by repeat constructor)⟩⟩ (fun t _ => ?_)
          obtain ⟨A83, c83⟩ := t
          dsimp only
          try dsimp only [List.nil_append]
          refine JAP (i := 10) rfl (rp_buildC (fun us => [us.getD 0 undef, us.getD 1 undef, us.getD 2 undef]) rfl rfl (fun w => by kernel_rfl)) ?_
          refine JA_one (i := 11) (by kernel_rfl) rfl (wn0 rfl) (ow_alloc rfl rfl zv_25 rfl rfl) trivial (fun b11 hb11 => ?_)
          refine JA_one (i := 12) (by kernel_rfl) rfl (wn0 rfl) (ow_store (cs := [_, _, _]) (vs' := [_, _, _]) rfl rfl rfl rfl rfl sz_25 rfl (by repeat constructor) (by rfl) (by rfl)) ⟨by kernel_rfl, .inr ⟨rfl, (by repeat constructor)⟩⟩ (fun _ _ => ?_)
          refine JA_done (by kernel_rfl) ?_
          exact JQ_cut (b11, A79, c79, A83, c83) trivial ⟨rfl, rfl, rfl, trivial⟩ (by repeat constructor)
         ·refine St1_mk rfl (wn0 rfl) (ow_alloc rfl rfl zv_25 rfl rfl) trivial (fun b11 hb11 => ?_)
          refine JA_oneS (i := 9) (by kernel_rfl) rfl (wn0 rfl) (ow_appX (L := ([] : List (Int × Int))) (M := R) EP (by decide) Try.underlying23 Try.info89 rfl (by decide) sz_89 rfl rfl rfl rfl rfl rfl (fun e => by cases e) (Nat.le_refl 0) (fun w hw => (hR.up EP hw.bel)) (by rw [List.length_nil]; omega) (by intro A c; repeat constructor)) ⟨by kernel_rfl, .inr ⟨rfl, (by repeat constructor)⟩⟩ (fun A83 c83 => ?_)
          try dsimp only [List.nil_append]
          refine JAP (i := 10) rfl (rp_buildC (fun us => [us.getD 0 undef, us.getD 1 undef, us.getD 2 undef]) rfl rfl (fun w => by kernel_rfl)) ?_
          refine JA_one (i := 12) (by kernel_rfl) rfl (wn0 rfl) (ow_store (cs := [_, _, _]) (vs' := [_, _, _]) rfl rfl rfl rfl rfl sz_25 rfl (by repeat constructor) (by rfl) (by rfl)) ⟨by kernel_rfl, .inr ⟨rfl, (by repeat constructor)⟩⟩ (fun _ _ => ?_)
          refine JA_done (by kernel_rfl) ?_
          exact JQ_cut (b11, A79, c79, A83, c83) trivial ⟨rfl, rfl, rfl, trivial⟩ (by repeat constructor)
        ·refine St1_mk rfl (wn0 rfl) (ow_alloc rfl rfl zv_25 rfl rfl) trivial (fun b11 hb11 => ?_)
         refine JA_oneS (i := 5) (by kernel_rfl) rfl (wn0 rfl) (ow_appX (L := ([] : List Gm)) (M := G) EG (by decide) Try.underlying22 Try.info90 rfl (by decide) sz_90 rfl rfl rfl rfl rfl rfl (fun e => by cases e) (Nat.le_refl 0) (fun w hw => (hG.up EG hw.bel)) (by rw [List.length_nil]; omega) (by intro A c; repeat constructor)) ⟨by kernel_rfl, .inr ⟨rfl, (by repeat constructor)⟩⟩ (fun A79 c79 => ?_)
         try dsimp only [List.nil_append]
         refine JA_oneS (i := 9) (by kernel_rfl) rfl (wn0 rfl) (ow_appX (L := ([] : List (Int × Int))) (M := R) EP (by decide) Try.underlying23 Try.info89 rfl (by decide) sz_89 rfl rfl rfl rfl rfl rfl (fun e => by cases e) (Nat.le_refl 0) (fun w hw => (hR.up EP hw.bel)) (by rw [List.length_nil]; omega) (by intro A c; repeat constructor)) ⟨by kernel_rfl, .inr ⟨rfl, (by repeat constructor)⟩⟩ (fun A83 c83 => ?_)
         try dsimp only [List.nil_append]
         refine JAP (i := 10) rfl (rp_buildC (fun us => [us.getD 0 undef, us.getD 1 undef, us.getD 2 undef]) rfl rfl (fun w => by kernel_rfl)) ?_
         refine JA_one (i := 12) (by kernel_rfl) rfl (wn0 rfl) (ow_store (cs := [_, _, _]) (vs' := [_, _, _]) rfl rfl rfl rfl rfl sz_25 rfl (by repeat constructor) (by rfl) (by rfl)) ⟨by kernel_rfl, .inr ⟨rfl, (by repeat constructor)⟩⟩ (fun _ _ => ?_)
         refine JA_done (by kernel_rfl) ?_
         exact JQ_cut (b11, A79, c79, A83, c83) trivial ⟨rfl, rfl, rfl, trivial⟩ (by repeat constructor)
       ·refine St1_mk rfl (wn0 rfl) (ow_alloc rfl rfl zv_25 rfl rfl) trivial (fun b11 hb11 => ?_)
        refine JA_one (i := 2) (by kernel_rfl) rfl (wn0 rfl) (ow_slice0 (k := 4) (ty := 90) rfl rfl rfl (fun _ => by kernel_rfl)) trivial (fun b76 hb76 => ?_)
        refine JA_oneS (i := 5) (by kernel_rfl) rfl (wn0 rfl) (ow_appX (L := ([] : List Gm)) (M := G) EG (by decide) Try.underlying22 Try.info90 rfl (by decide) sz_90 rfl rfl rfl rfl rfl rfl (fun e => by cases e) (Nat.le_refl 0) (fun w hw => (hG.up EG hw.bel)) (by rw [List.length_nil]; omega) (by intro A c; repeat constructor)) ⟨by kernel_rfl, .inr ⟨rfl, (by repeat constructor)⟩⟩ (fun A79 c79 => ?_)
        try dsimp only [List.nil_append]
        refine JA_oneS (i := 9) (by kernel_rfl) rfl (wn0 rfl) (ow_appX (L := ([] : List (Int × Int))) (M := R) EP (by decide) Try.underlying23 Try.info89 rfl (by decide) sz_89 rfl rfl rfl rfl rfl rfl (fun e => by cases e) (Nat.le_refl 0) (fun w hw => (hR.up EP hw.bel)) (by rw [List.length_nil]; omega) (by intro A c; repeat constructor)) ⟨by kernel_rfl, .inr ⟨rfl, (by repeat constructor)⟩⟩ (fun A83 c83 => ?_)
        try dsimp only [List.nil_append]
        refine JAP (i := 10) rfl (rp_buildC (fun us => [us.getD 0 undef, us.getD 1 undef, us.getD 2 undef]) rfl rfl (fun w => by kernel_rfl)) ?_
        refine JA_one (i := 12) (by kernel_rfl) rfl (wn0 rfl) (ow_store (cs := [_, _, _]) (vs' := [_, _, _]) rfl rfl rfl rfl rfl sz_25 rfl (by repeat constructor) (by rfl) (by rfl)) ⟨by kernel_rfl, .inr ⟨rfl, (by repeat constructor)⟩⟩ (fun _ _ => ?_)
        refine JA_done (by kernel_rfl) ?_
        exact JQ_cut (b11, A79, c79, A83, c83) trivial ⟨rfl, rfl, rfl, trivial⟩ (by repeat constructor)
      ·refine St1_mk rfl (wn0 rfl) (ow_alloc rfl rfl zv_25 rfl rfl) trivial (fun b11 hb11 => ?_)
       refine JA_pair (i := 2) (j := 6) (by kernel_rfl) ?_ ?_
       ·refine St1_mk rfl (wn0 rfl) (ow_slice0 (k := 4) (ty := 90) rfl rfl rfl (fun _ => by kernel_rfl)) trivial (fun b76 hb76 => ?_)
        refine JA_pair (i := 5) (j := 6) (by kernel_rfl) ?_ ?_
        ·refine St1_mk rfl (wn0 rfl) (ow_appX (L := ([] : List Gm)) (M := G) EG (by decide) Try.underlying22 Try.info90 rfl (by decide) sz_90 rfl rfl rfl rfl rfl rfl (fun e => by cases e) (Nat.le_refl 0) (fun w hw => (hG.up EG hw.bel)) (by rw [List.length_nil]; omega) (by intro A c; repeat constructor)) ⟨by kernel_rfl, .inr ⟨rfl, (by repeat constructor)⟩⟩ (fun t _ => ?_)
         obtain ⟨A79, c79⟩ := t
         dsimp only
         try dsimp only [List.nil_append]
         refine JA_one (i := 6) (by kernel_rfl) rfl (wn0 rfl) (ow_slice0 (k := 2) (ty := 89) rfl rfl rfl (fun _ => by kernel_rfl)) trivial (fun b80 hb80 => ?_)
         refine JA_oneS (i := 9) (by kernel_rfl) rfl (wn0 rfl) (ow_appX (L := ([] : List (Int × Int))) (M := R) EP (by decide) Try.underlying23 Try.info89 rfl (by decide) sz_89 rfl rfl rfl rfl rfl rfl (fun e => by cases e) (Nat.le_refl 0) (fun w hw => (hR.up EP hw.bel)) (by rw [List.length_nil]; omega) (by intro A c; repeat constructor)) ⟨by kernel_rfl, .inr ⟨rfl, (by repeat constructor)⟩⟩ (fun A83 c83 => ?_)
         try dsimp only [List.nil_append]
         refine JAP (i := 10) rfl (rp_buildC (fun us => [us.getD 0 undef, us.getD 1 undef, us.getD 2 undef]) rfl rfl (fun w => by kernel_rfl)) ?_
         refine JA_one (i := 12) (by kernel_rfl) rfl (wn0 rfl) (ow_store (cs := [_, _, _]) (vs' := [_, _, _]) rfl rfl rfl rfl rfl sz_25 rfl (by repeat constructor) (by rfl) (by rfl)) ⟨by kernel_rfl, .inr ⟨rfl, (by repeat constructor)⟩⟩ (fun _ _ => ?_)
         refine JA_done (by kernel_rfl) ?_
         exact JQ_cut (b11, A79, c79, A83, c83) trivial ⟨rfl, rfl, rfl, trivial⟩ (by repeat constructor)
        ·refine St1_mk rfl (wn0 rfl) (ow_slice0 (k := 2) (ty := 89) rfl rfl rfl (fun _ => by kernel_rfl)) trivial (fun b80 hb80 => ?_)
         refine JA_oneS (i := 5) (by kernel_rfl) rfl (wn0 rfl) (ow_appX (L := ([] : List Gm)) (M := G) EG (by decide) Try.underlying22 Try.info90 rfl (by decide) sz_90 rfl rfl rfl rfl rfl rfl (fun e => by cases e) (Nat.le_refl 0) (fun w hw => (hG.up EG hw.bel)) (by rw [List.length_nil]; omega) (by intro A c; repeat constructor)) ⟨by kernel_rfl, .inr ⟨rfl, (by repeat constructor)⟩⟩ (fun A79 c79 => ?_)
         try dsimp only [List.nil_append]
         refine JA_oneS (i := 9) (by kernel_rfl) rfl (wn0 rfl) (ow_appX (L := ([] : List (Int × Int))) (M := R) EP (by decide) Try.underlying23 Try.info89 rfl (by decide) sz_89 rfl rfl rfl rfl rfl rfl (fun e => by cases e) (Nat.le_refl 0) (fun w hw => (hR.up EP hw.bel)) (by rw [List.length_nil]; omega) (by intro A c; repeat constructor)) ⟨by kernel_rfl, .inr ⟨rfl, (by repeat constructor)⟩⟩ (fun A83 c83 => ?_)
         try dsimp only [List.nil_append]
         refine JAP (i := 10) rfl (rp_buildC (fun us => [us.getD 0 undef, us.getD 1 undef, us.getD 2 undef]) rfl rfl (fun w => by kernel_rfl)) ?_
         refine JA_one (i := 12) (by kernel_rfl) rfl (wn0 rfl) (ow_store (cs := [_, _, _]) (vs' := [_, _, _]) rfl rfl rfl rfl rfl sz_25 rfl (by repeat constructor) (by rfl) (by rfl)) ⟨by kernel_rfl, .inr ⟨rfl, (by repeat constructor)⟩⟩ (fun _ _ => ?_)
         refine JA_done (by kernel_rfl) ?_
         exact JQ_cut (b11, A79, c79, A83, c83) trivial ⟨rfl, rfl, rfl, trivial⟩ (by repeat constructor)
       ·refine St1_mk rfl (wn0 rfl) (ow_slice0 (k := 2) (ty := 89) rfl rfl rfl (fun _ => by kernel_rfl)) trivial (fun b80 hb80 => ?_)
        refine JA_one (i := 2) (by kernel_rfl) rfl (wn0 rfl) (ow_slice0 (k := 4) (ty := 90) rfl rfl rfl (fun _ => by kernel_rfl)) trivial (fun b76 hb76 => ?_)
        refine JA_oneS (i := 5) (by kernel_rfl) rfl (wn0 rfl) (ow_appX (L := ([] : List Gm)) (M := G) EG (by decide) Try.underlying22 Try.info90 rfl (by decide) sz_90 rfl rfl rfl rfl rfl rfl (fun e => by cases e) (Nat.le_refl 0) (fun w hw => (hG.up EG hw.bel)) (by rw [List.length_nil]; omega) (by intro A c; repeat constructor)) ⟨by kernel_rfl, .inr ⟨rfl, (by repeat constructor)⟩⟩ (fun A79 c79 => ?_)
        try dsimp only [List.nil_append]
        refine JA_oneS (i := 9) (by kernel_rfl) rfl (wn0 rfl) (ow_appX (L := ([] : List (Int × Int))) (M := R) EP (by decide) Try.underlying23 Try.info89 rfl (by decide) sz_89 rfl rfl rfl rfl rfl rfl (fun e => by cases e) (Nat.le_refl 0) (fun w hw => (hR.up EP hw.bel)) (by rw [List.length_nil]; omega) (by intro A c; repeat constructor)) ⟨by kernel_rfl, .inr ⟨rfl, (by repeat constructor)⟩⟩ (fun A83 c83 => ?_)
        try dsimp only [List.nil_append]
        refine JAP (i := 10) rfl (rp_buildC (fun us => [us.getD 0 undef, us.getD 1 undef, us.getD 2 undef]) rfl rfl (fun w => by kernel_rfl)) ?_
        refine JA_one (i := 12) (by kernel_rfl) rfl (wn0 rfl) (ow_store (cs := [_, _, _]) (vs' := [_, _, _]) rfl rfl rfl rfl rfl sz_25 rfl (by repeat constructor) (by rfl) (by rfl)) ⟨by kernel_rfl, .inr ⟨rfl, (by repeat constructor)⟩⟩ (fun _ _ => ?_)
        refine JA_done (by kernel_rfl) ?_
        exact JQ_cut (b11, A79, c79, A83, c83) trivial ⟨rfl, rfl, rfl, trivial⟩ (by repeat constructor)
     ·rintro ⟨b11, A79, c79, A83, c83⟩ -
      dsimp only
      refine J_seq ?_
      refine J_fact (fun hf => ?_)
      obtain ⟨g1, rfl⟩ := own_some (A := A79) (ty := 90) (k := 4) (m := G.length) (c := c79) hf (by repeat constructor) (by omega)
      obtain ⟨g2, rfl⟩ := own_some (A := A83) (ty := 89) (k := 2) (m := R.length) (c := c83) hf (by repeat constructor) (by omega)
      refine J_reg ?_
      refine JV (rv_agg (cs := [_, _, _]) rfl rfl ag_25 sz_25 (by repeat constructor) (by rfl)) ?_
      refine JL_op (wn0 rfl) (ow_callR (ec_fn rfl rfl cf_34) rfl rfl (fun _ => rfl) (fun w hw => New34 (N : Nat) G R w _ _ _ _ (Arr.of_own EG (hw.ok (ownB 90 4 (some ⟨g1, 0, none⟩) G.length c79 (G.flatMap eG)) (by repeat constructor)).1 (by omega)) (Arr.of_own EP (hw.ok (ownB 89 2 (some ⟨g2, 0, none⟩) R.length c83 (R.flatMap eP)) (by repeat constructor)).1 (by omega)) hG2 hR2 h70 ⟨by omega, by omega⟩)) (fun t87 _ => ?_)
      dsimp only [PdG, List.cons_append, List.nil_append]
      refine JM rfl rfl rfl rfl rfl ?_
      refine JP (rp_run1 (f := fun u => Instr.extract u 0) (fun _ => rfl) rfl (fun _ => rfl)) ?_
      refine JP (rp_run1 (f := fun u => Instr.extract u 1) (fun _ => rfl) rfl (fun _ => rfl)) ?_
      refine JN rfl rfl rfl rfl rfl ?_
      refine JN rfl rfl rfl rfl rfl ?_
      refine JL_nil ?_
      refine JQ_then_n ?_
      refine J_seq ?_
      refine J_seq ?_
      refine J_keep (l' := [(1, _), (2, _), (11, _), (12, _), (13, _)]) ⟨rfl, rfl, rfl, rfl, rfl, trivial⟩ ?_
      refine J_reg ?_
      refine JM rfl rfl rfl rfl rfl ?_
      refine JP (rp2 rfl rfl (fun ρ hx hy w => ex_neq29 rfl hx hy)) ?_
      refine JL_decF (fun h => h rfl) ?_
      refine JM rfl rfl rfl rfl rfl ?_
      refine JPg (rp_move rfl rfl) ?_
      refine JPg (rp2 rfl rfl (fun ρ hx hy w => ex_eqlPtr rfl hx hy)) ?_
      refine JL_boolF rfl ?_
      refine JP (rp_pickF rfl rfl rfl) ?_
      refine JL_nil ?_
      refine JQ_then_n ?_
      refine J_no rfl rfl ?_
      refine J_skip ?_
      refine JQ_then_n ?_
      refine J_seq ?_
      refine J_seq ?_
      refine J_keep (l' := [(1, _), (2, _), (11, _), (12, _)]) ⟨rfl, rfl, rfl, rfl, trivial⟩ ?_
      refine J_reg ?_
      refine JN rfl rfl rfl rfl rfl ?_
      refine JL_nil ?_
      refine JQ_then_n ?_
      refine J_block ?_
      refine J_loop (T := Nat × List Gm) (fun q => q.1 ≤ G.length ∧ q.2.length = G.length) (fun q => [(1, .slice Al tl.length cl), (2, .pointer (some ⟨b2, 0, none⟩)), (11, .pointer (some ⟨b11, 0, none⟩)), (12, .pointer (some ⟨t87.bp, 0, none⟩)), (14, .int .i64 (q.1 : Nat))]) (fun q => [cellB t87.bp [.int .i64 (N : Nat), .slice t87.A G.length t87.c, .slice t87.A2 R.length t87.c2, .map (some t87.bm)] 86, ownB 90 4 t87.A G.length t87.c (G.flatMap eG), ownB 89 2 t87.A2 R.length t87.c2 (R.flatMap eP), resB t87.bm 0 (fun _ => none), cellB b11 [.int .i64 (N : Nat), .slice (some ⟨g1, 0, none⟩) G.length c79, .slice (some ⟨g2, 0, none⟩) R.length c83] 25, ownB 90 4 (some ⟨g1, 0, none⟩) G.length c79 (q.2.flatMap eG), ownB 89 2 (some ⟨g2, 0, none⟩) R.length c83 (R.flatMap eP), cellB b2 [.int .i64 (N : Nat), .slice (some ⟨bG, pG, none⟩) G.length c, .slice (some ⟨bR, pR, none⟩) R.length c2] 25]) (fun q => G.length - q.1) (0, G) ⟨Nat.zero_le _, rfl⟩ ⟨rfl, rfl, rfl, rfl, rfl, trivial⟩ (by repeat constructor) ?_
      rintro ⟨k, L⟩ ⟨hk, hL⟩
      dsimp only at hk hL ⊢
      refine J_seq ?_
      refine J_seq ?_
      refine J_reg ?_
      refine JM rfl rfl rfl rfl rfl ?_
      refine JP (rp_fieldC (off' := 1) rfl rfl fa_25_1 rfl) ?_
      refine JV (rv_cell rfl rfl ag_22 (by repeat constructor) (by rfl)) ?_
      refine JP (rp1 rfl (fun ρ hx w => ex_len (A := _) (c := _) rfl Try.underlying22 hx)) ?_
      refine JP (rp2 rfl rfl (fun ρ hx hy w => ex_lssD rfl hx hy)) ?_
      refine JL_dec (fun h100 => ?_) (fun h100 => ?_)
      ·refine JL_nil ?_
       refine JQ_then_n ?_
       refine J_yes rfl rfl ?_
       refine J_skip ?_
       refine JQ_then_n ?_
       refine J_seq ?_
       refine J_block ?_
       have hlt : k < L.length := by omega
       refine J_keep (l' := [(1, _), (2, _), (11, _), (12, _), (14, _)]) ⟨rfl, rfl, rfl, rfl, rfl, trivial⟩ ?_
       refine J_reg ?_
       refine JP (rp_fieldC (off' := 1) rfl rfl fa_25_1 rfl) ?_
       refine JV (rv_cell rfl rfl ag_22 (by repeat constructor) (by rfl)) ?_
       refine JM rfl rfl rfl rfl rfl ?_
       refine JP (rp_buildC (fun us => [.int .i64 0, .int .i64 0, .int .i64 0, .int .i64 0]) rfl rfl (fun w => by kernel_rfl)) ?_
       refine JP (rp2 rfl rfl (fun ρ hx hy w => ex_indexI (k := k) rfl hx hy rfl Try.underlying22 sz_90 (by omega))) ?_
       refine JL_op (wn0 rfl) (ow_storeE (L := L) (j := k) (cs := [_, _, _, _]) EG ((0, 0), (0, 0)) rfl rfl rfl rfl rfl sz_90 rfl (by repeat constructor) (by omega) (Nat.le_of_ble_eq_true rfl) rfl) (fun _ _ => ?_)
       refine JL_nil ?_
       refine JQ_block_n ?_
       refine JQ_then_n ?_
       refine J_keep (l' := [(1, _), (2, _), (11, _), (12, _), (14, _)]) ⟨rfl, rfl, rfl, rfl, rfl, trivial⟩ ?_
       refine J_reg ?_
       refine JM rfl rfl rfl rfl rfl ?_
       refine JP (rp2 rfl rfl (fun ρ hx hy w => ex_add rfl hx hy (by omega))) ?_
       refine JN rfl rfl rfl rfl rfl ?_
       refine JL_nil ?_
       exact JQ_round (k + 1, L.set k ((0, 0), (0, 0))) ⟨by dsimp only; omega, by dsimp only; rw [List.length_set]; exact hL⟩ (by dsimp only; omega) ⟨rfl, rfl, rfl, rfl, (congrArg some (by go_num)), trivial⟩ (by repeat constructor)
      ·refine JL_nil ?_
       refine JQ_then_n ?_
       refine J_no rfl rfl ?_
       refine J_exit ?_
       refine JQ_then_x ?_
       refine JQ_then_x ?_
       refine JQ_block_y rfl ?_
       refine JQ_then_n ?_
       refine J_seq ?_
       refine J_seq ?_
       refine J_keep (l' := [(1, _), (2, _), (11, _), (12, _)]) ⟨rfl, rfl, rfl, rfl, trivial⟩ ?_
       refine J_reg ?_
       refine JN rfl rfl rfl rfl rfl ?_
       refine JL_nil ?_
       refine JQ_then_n ?_
       refine J_block ?_
       refine J_loop (T := Nat × List (Int × Int)) (fun q => q.1 ≤ R.length ∧ q.2.length = R.length) (fun q => [(1, .slice Al tl.length cl), (2, .pointer (some ⟨b2, 0, none⟩)), (11, .pointer (some ⟨b11, 0, none⟩)), (12, .pointer (some ⟨t87.bp, 0, none⟩)), (15, .int .i64 (q.1 : Nat))]) (fun q => [cellB t87.bp [.int .i64 (N : Nat), .slice t87.A G.length t87.c, .slice t87.A2 R.length t87.c2, .map (some t87.bm)] 86, ownB 90 4 t87.A G.length t87.c (G.flatMap eG), ownB 89 2 t87.A2 R.length t87.c2 (R.flatMap eP), resB t87.bm 0 (fun _ => none), cellB b11 [.int .i64 (N : Nat), .slice (some ⟨g1, 0, none⟩) G.length c79, .slice (some ⟨g2, 0, none⟩) R.length c83] 25, ownB 89 2 (some ⟨g2, 0, none⟩) R.length c83 (q.2.flatMap eP), cellB b2 [.int .i64 (N : Nat), .slice (some ⟨bG, pG, none⟩) G.length c, .slice (some ⟨bR, pR, none⟩) R.length c2] 25]) (fun q => R.length - q.1) (0, R) ⟨Nat.zero_le _, rfl⟩ ⟨rfl, rfl, rfl, rfl, rfl, trivial⟩ (by repeat constructor) ?_
       rintro ⟨k, L2⟩ ⟨hk2, hL2⟩
       dsimp only at hk2 hL2 ⊢
       refine J_seq ?_
       refine J_seq ?_
       refine J_reg ?_
       refine JM rfl rfl rfl rfl rfl ?_
       refine JP (rp_fieldC (off' := 2) rfl rfl fa_25_2 rfl) ?_
       refine JV (rv_cell rfl rfl ag_23 (by repeat constructor) (by rfl)) ?_
       refine JP (rp1 rfl (fun ρ hx w => ex_len (A := _) (c := _) rfl Try.underlying23 hx)) ?_
       refine JP (rp2 rfl rfl (fun ρ hx hy w => ex_lssD rfl hx hy)) ?_
       refine JL_dec (fun h112 => ?_) (fun h112 => ?_)
       ·refine JL_nil ?_
        refine JQ_then_n ?_
        refine J_yes rfl rfl ?_
        refine J_skip ?_
        refine JQ_then_n ?_
        refine J_seq ?_
        refine J_block ?_
        have hlt : k < L2.length := by omega
        refine J_keep (l' := [(1, _), (2, _), (11, _), (12, _), (15, _)]) ⟨rfl, rfl, rfl, rfl, rfl, trivial⟩ ?_
        refine J_reg ?_
        refine JP (rp_fieldC (off' := 2) rfl rfl fa_25_2 rfl) ?_
        refine JV (rv_cell rfl rfl ag_23 (by repeat constructor) (by rfl)) ?_
        refine JM rfl rfl rfl rfl rfl ?_
        refine JP (rp_buildC (fun us => [.int .i64 0, .int .i64 0]) rfl rfl (fun w => by kernel_rfl)) ?_
        refine JP (rp2 rfl rfl (fun ρ hx hy w => ex_indexI (k := k) rfl hx hy rfl Try.underlying23 sz_89 (by omega))) ?_
        refine JL_op (wn0 rfl) (ow_storeE (L := L2) (j := k) (cs := [_, _]) EP (0, 0) rfl rfl rfl rfl rfl sz_89 rfl (by repeat constructor) (by omega) (Nat.le_of_ble_eq_true rfl) rfl) (fun _ _ => ?_)
        refine JL_nil ?_
        refine JQ_block_n ?_
        refine JQ_then_n ?_
        refine J_keep (l' := [(1, _), (2, _), (11, _), (12, _), (15, _)]) ⟨rfl, rfl, rfl, rfl, rfl, trivial⟩ ?_
        refine J_reg ?_
        refine JM rfl rfl rfl rfl rfl ?_
        refine JP (rp2 rfl rfl (fun ρ hx hy w => ex_add rfl hx hy (by omega))) ?_
        refine JN rfl rfl rfl rfl rfl ?_
        refine JL_nil ?_
        exact JQ_round (k + 1, L2.set k (0, 0)) ⟨by dsimp only; omega, by dsimp only; rw [List.length_set]; exact hL2⟩ (by dsimp only; omega) ⟨rfl, rfl, rfl, rfl, (congrArg some (by go_num)), trivial⟩ (by repeat constructor)
       ·refine JL_nil ?_
        refine JQ_then_n ?_
        refine J_no rfl rfl ?_
        refine J_exit ?_
        refine JQ_then_x ?_
        refine JQ_then_x ?_
        refine JQ_block_y rfl ?_
        refine JQ_then_n ?_
        refine J_seq ?_
        refine J_keep (l' := [(1, _), (2, _), (12, _)]) ⟨rfl, rfl, rfl, trivial⟩ ?_
        refine J_reg ?_
        refine JV (rv_agg (cs := [_, _, _]) rfl rfl ag_25 sz_25 (by repeat constructor) (by rfl)) ?_
        refine JL_op (wn0 rfl) (ow_callR (ec_fn rfl rfl cf_41) rfl rfl (fun _ => rfl) (fun w hw => by have := New41 (N : Nat) (some ⟨bG, pG, none⟩) G.length c (some ⟨bR, pR, none⟩) R.length c2 w (by omega); rw [← wL_none] at this; exact this)) (fun t121 _ => ?_)
        refine JL_op (wn0 rfl) (ow_alloc rfl rfl zv_77 rfl rfl) (fun b16 hb16 => ?_)
        refine JL_op (wn0 rfl) (ow_store (cs := [_, _, _, _]) (vs' := [_, _, _, _]) rfl rfl rfl rfl rfl sz_77 rfl (by repeat constructor) (by rfl) (by rfl)) (fun _ _ => ?_)
        refine JL_nil ?_
        refine JQ_then_n ?_
        refine J_seq ?_
        refine J_seq ?_
        refine J_reg ?_
        refine JN rfl rfl rfl rfl rfl ?_
        refine JL_nil ?_
        refine JQ_then_n ?_
        refine J_block ?_
        refine J_loop (T := Nat × (Int → Option Int) × Option Addr × Nat) (fun q => q.1 ≤ tl.length ∧ ∀ j s, q.2.1 j = some s → s = 0 ∨ s = 1) (fun q => [(1, .slice Al tl.length cl), (12, .pointer (some ⟨t87.bp, 0, none⟩)), (16, .pointer (some ⟨b16, 0, none⟩)), (17, .int .i64 (q.1 : Nat))]) (fun q => [cellB t87.bp [.int .i64 (N : Nat), .slice t87.A G.length t87.c, .slice t87.A2 R.length t87.c2, .map (some t87.bm)] 86, ownB 90 4 t87.A G.length t87.c (G.flatMap eG), ownB 89 2 t87.A2 R.length t87.c2 (R.flatMap eP), resB t87.bm q.1 q.2.1, cellB b16 [.int .i64 (N : Nat), .slice (some ⟨bG, pG, none⟩) G.length c, .slice (some ⟨bR, pR, none⟩) R.length c2, .slice q.2.2.1 (wL G.length q.2.1).length q.2.2.2] 77, ownB 3 1 q.2.2.1 (wL G.length q.2.1).length q.2.2.2 ((wL G.length q.2.1).flatMap eI)]) (fun q => tl.length - q.1) (0, (fun _ => none), t121.1, t121.2) ⟨Nat.zero_le _, fun _ _ h => by cases h⟩ ⟨rfl, rfl, rfl, rfl, trivial⟩ (by repeat constructor) ?_
        rintro ⟨i, m, A8, c8⟩ ⟨hi, hmv⟩
        dsimp only at hi hmv ⊢
        refine J_seq ?_
        refine J_seq ?_
        refine J_reg ?_
        refine JM rfl rfl rfl rfl rfl ?_
        refine JM rfl rfl rfl rfl rfl ?_
        refine JP (rp1 rfl (fun ρ hx w => ex_len (A := _) (c := _) rfl Try.underlying75 hx)) ?_
        refine JP (rp2 rfl rfl (fun ρ hx hy w => ex_lssD rfl hx hy)) ?_
        refine JL_dec (fun h125 => ?_) (fun h125 => ?_)
        ·refine JL_nil ?_
         refine JQ_then_n ?_
         refine J_yes rfl rfl ?_
         refine J_skip ?_
         refine JQ_then_n ?_
         refine J_seq ?_
         refine J_block ?_
         refine J_seq ?_
         have hlt : i < tl.length := by omega
         obtain ⟨b, p, rfl, hh⟩ := hAl (by intro e; subst e; simp at hlt)
         obtain ⟨⟨x1, x2⟩, hx⟩ : ∃ x, tl[i]'hlt = x := ⟨_, rfl⟩
         have hxw := hl2 _ (List.getElem_mem hlt)
         rw [hx] at hxw
         obtain ⟨hxw1, hxw2⟩ := hxw
         dsimp only at hxw1 hxw2
         obtain ⟨m2, hm2⟩ : ∃ q, repM G m x1 x2 = q := ⟨_, rfl⟩
         have hmv2 : ∀ j s, m2 j = some s → s = 0 ∨ s = 1 := by rw [← hm2]; exact repM_v hmv
         rcases Classical.em (repE G m x1 x2 = 0) with hre | hre
         ·have hW2 : (wL G.length m).set x1.toNat x2 = wL G.length m2 := by
            obtain ⟨k, e⟩ := Int.eq_ofNat_of_zero_le (repE_zero hre).1.1
            rw [← hm2]; unfold repM; rw [if_pos hre, e, Int.toNat_natCast]; exact wL_set _ _ _ _
          refine J_keep (l' := [(1, _), (12, _), (16, _), (17, _)]) ⟨rfl, rfl, rfl, rfl, trivial⟩ ?_
          refine J_draw [5, 10] (by kernel_rfl) ?_
          refine JAP (i := 0) rfl (rp_move rfl rfl) ?_
          refine JAP (i := 1) rfl (rp_move rfl rfl) ?_
          refine JAP (i := 2) rfl (rp_move rfl rfl) ?_
          refine JAP (i := 3) rfl (rp2 rfl rfl (fun ρ hx hy w => ex_indexE rfl hx hy Try.underlying75 sz_80 (by omega))) ?_
          refine JAP (i := 4) rfl (rp_fieldE (i' := 0) rfl rfl fa_80_0 rfl) ?_
          refine JAL (i := 5) rfl (rv_hold (j := i) (i := 0) rfl rfl ag_3 (fun h => h) hh hlt (by omega) (by rw [hx]; rfl)) ?_
          refine JAP (i := 6) rfl (rp_move rfl rfl) ?_
          refine JAP (i := 7) rfl (rp_move rfl rfl) ?_
          refine JAP (i := 8) rfl (rp2 rfl rfl (fun ρ hx hy w => ex_indexE rfl hx hy Try.underlying75 sz_80 (by omega))) ?_
          refine JAP (i := 9) rfl (rp_fieldE (i' := 1) rfl rfl fa_80_1 rfl) ?_
          refine JAL (i := 10) rfl (rv_hold (j := i) (i := 1) rfl rfl ag_3 (fun h => h) hh hlt (by omega) (by rw [hx]; rfl)) ?_
          refine JA_one (i := 11) (by kernel_rfl) rfl (wn0 rfl) (ow_callM (A := resB t87.bm i m) (T := Unit) (φ := fun _ => True) (V := fun _ => .int .i64 (repE G m x1 x2)) (C := fun _ => resB t87.bm (i + 1) m2) (ec_fn rfl rfl cf_36) rfl rfl rfl (fun _ => rfl) (fun _ => (by repeat constructor)) (fun w hw => by have hp := pd_of (T := (N : Nat)) (G := G) (R := R) (t := t87) (k := i) (m := m) hw (by unfold PdG; repeat constructor) ⟨by omega, by omega⟩; have := report36 (N : Nat) G R m x1 x2 w _ _ _ _ i _ _ hp.1 hp.2.1 hp.2.2 (by omega) (by omega) hxw1 hxw2; rw [hm2] at this; exact this)) ⟨by kernel_rfl, .inl (by kernel_rfl)⟩ (fun _ _ => ?_)
          refine JA_done (by kernel_rfl) ?_
          refine JQ_then_n ?_
          refine J_seq ?_
          refine J_keep (l' := [(1, _), (12, _), (16, _), (17, _)]) ⟨rfl, rfl, rfl, rfl, trivial⟩ ?_
          refine J_draw [0, 5, 10] (by kernel_rfl) ?_
          refine JAL (i := 0) rfl (rv_agg (cs := [_, _, _, _]) rfl rfl ag_77 sz_77 (by repeat constructor) (by rfl)) ?_
          refine JAP (i := 1) rfl (rp_move rfl rfl) ?_
          refine JAP (i := 2) rfl (rp_move rfl rfl) ?_
          refine JAP (i := 3) rfl (rp2 rfl rfl (fun ρ hx hy w => ex_indexE rfl hx hy Try.underlying75 sz_80 (by omega))) ?_
          refine JAP (i := 4) rfl (rp_fieldE (i' := 0) rfl rfl fa_80_0 rfl) ?_
          refine JAL (i := 5) rfl (rv_hold (j := i) (i := 0) rfl rfl ag_3 (fun h => h) hh hlt (by omega) (by rw [hx]; rfl)) ?_
          refine JAP (i := 6) rfl (rp_move rfl rfl) ?_
          refine JAP (i := 7) rfl (rp_move rfl rfl) ?_
          refine JAP (i := 8) rfl (rp2 rfl rfl (fun ρ hx hy w => ex_indexE rfl hx hy Try.underlying75 sz_80 (by omega))) ?_
          refine JAP (i := 9) rfl (rp_fieldE (i' := 1) rfl rfl fa_80_1 rfl) ?_
          refine JAL (i := 10) rfl (rv_hold (j := i) (i := 1) rfl rfl ag_3 (fun h => h) hh hlt (by omega) (by rw [hx]; rfl)) ?_
          refine JA_one (i := 11) (by kernel_rfl) rfl (wn0 rfl) (ow_callR (ec_fn rfl rfl cf_42) rfl rfl (fun _ => rfl) (fun w hw => by have := Report42 N G R (wL G.length m) m (wL_ok G m hmv) (by omega) x1 x2 hre w _ _ _ _ _ _ (⟨hG.up EG hw.bel, hR.up EP hw.bel, Arr.of_own EI (hw.ok (ownB 3 1 A8 (wL G.length m).length c8 ((wL G.length m).flatMap eI)) (by repeat constructor)).1 (by rw [wL_len]; omega)⟩ : QdF N G R (wL G.length m) w _ _ A8 c c2 c8); rw [hW2] at this; exact this)) trivial (fun t152 _ => ?_)
          refine JAP (i := 12) rfl (rp_move rfl rfl) ?_
          refine JAP (i := 13) rfl (rp_run1 (f := fun u => Instr.extract u 0) (fun _ => rfl) rfl (fun _ => rfl)) ?_
          refine JAP (i := 14) rfl (rp_run1 (f := fun u => Instr.extract u 1) (fun _ => rfl) rfl (fun _ => rfl)) ?_
          refine JA_one (i := 15) (by kernel_rfl) rfl (wn0 rfl) (ow_store (cs := [_, _, _, _]) (vs' := [_, _, _, _]) rfl rfl rfl rfl rfl sz_77 rfl (by repeat constructor) (by rfl) (by rfl)) ⟨by kernel_rfl, .inl (by kernel_rfl)⟩ (fun _ _ => ?_)
          refine JA_done (by kernel_rfl) ?_
          refine JQ_then_n ?_
          refine J_seq ?_
          have hrl := rdL_len m2 (tmM m2 N G G.length) G G.length
          refine J_keep (l' := [(1, _), (12, _), (16, _), (17, _)]) ⟨rfl, rfl, rfl, rfl, trivial⟩ ?_
          refine J_reg ?_
          refine JM rfl rfl rfl rfl rfl ?_
          refine JL_opS (wn0 rfl) (ow_callS (ec_fn rfl rfl cf_40) rfl rfl (fun w hw => (by have hp := pd_of (T := (N : Nat)) (G := G) (R := R) (t := t87) (k := (i + 1)) (m := m2) hw (by unfold PdG; repeat constructor) ⟨by omega, by omega⟩; exact Ready40 N G R m2 w _ _ _ _ (i + 1) _ _ hp.1 hp.2.2 (by omega) (by omega) hG2 hmv2))) (fun A156 c156 => ?_)
          refine JL_op (wn0 rfl) (ow_callL [ownB 3 1 A156 (rdL m2 (tmM m2 N G G.length) G G.length).length c156 ((rdL m2 (tmM m2 N G G.length) G G.length).flatMap eI)] [cellB t87.bp [.int .i64 (N : Nat), .slice t87.A G.length t87.c, .slice t87.A2 R.length t87.c2, .map (some t87.bm)] 86, ownB 90 4 t87.A G.length t87.c (G.flatMap eG), ownB 89 2 t87.A2 R.length t87.c2 (R.flatMap eP), resB t87.bm (i + 1) m2, cellB b16 [.int .i64 (N : Nat), .slice (some ⟨bG, pG, none⟩) G.length c, .slice (some ⟨bR, pR, none⟩) R.length c2, .slice t152.1 (wL G.length m2).length t152.2] 77, ownB 3 1 t152.1 (wL G.length m2).length t152.2 ((wL G.length m2).flatMap eI)] (ec_fn rfl rfl cf_44) rfl rfl (by repeat constructor) rfl (fun _ => rfl) (fun w hw h0 => spoil44 (rdL m2 (tmM m2 N G G.length) G G.length) w A156 c156 _ h0 (by omega))) (fun _ _ => ?_)
          refine JL_nil ?_
          refine JQ_then_n ?_
          have hpl : (plcL (tmM m2 N G G.length) R).length = R.length := by unfold plcL; rw [List.length_map]
          refine J_reg ?_
          refine JM rfl rfl rfl rfl rfl ?_
          refine JL_opS (wn0 rfl) (ow_callS (ec_fn rfl rfl cf_38) rfl rfl (fun w hw => (by have hp := pd_of (T := (N : Nat)) (G := G) (R := R) (t := t87) (k := (i + 1)) (m := m2) hw (by unfold PdG; repeat constructor) ⟨by omega, by omega⟩; obtain ⟨n0, c0, -, hmp⟩ := id hp.2.2; exact places38 N G R m2 w _ _ _ _ n0 c0 _ _ hp.1 hmp (by omega) (by omega) (by omega) hG2 hR2 hmv2))) (fun A159 c159 => ?_)
          refine JL_op (wn0 rfl) (ow_callL [ownB 3 1 A159 (plcL (tmM m2 N G G.length) R).length c159 ((plcL (tmM m2 N G G.length) R).flatMap eI)] [cellB t87.bp [.int .i64 (N : Nat), .slice t87.A G.length t87.c, .slice t87.A2 R.length t87.c2, .map (some t87.bm)] 86, ownB 90 4 t87.A G.length t87.c (G.flatMap eG), ownB 89 2 t87.A2 R.length t87.c2 (R.flatMap eP), resB t87.bm (i + 1) m2, cellB b16 [.int .i64 (N : Nat), .slice (some ⟨bG, pG, none⟩) G.length c, .slice (some ⟨bR, pR, none⟩) R.length c2, .slice t152.1 (wL G.length m2).length t152.2] 77, ownB 3 1 t152.1 (wL G.length m2).length t152.2 ((wL G.length m2).flatMap eI)] (ec_fn rfl rfl cf_44) rfl rfl (by repeat constructor) rfl (fun _ => rfl) (fun w hw h0 => spoil44 (plcL (tmM m2 N G G.length) R) w A159 c159 _ h0 (by omega))) (fun _ _ => ?_)
          refine JL_nil ?_
          refine JQ_block_n ?_
          refine JQ_then_n ?_
          refine J_keep (l' := [(1, _), (12, _), (16, _), (17, _)]) ⟨rfl, rfl, rfl, rfl, trivial⟩ ?_
          refine J_reg ?_
          refine JM rfl rfl rfl rfl rfl ?_
          refine JP (rp2 rfl rfl (fun ρ hx hy w => ex_add rfl hx hy (by omega))) ?_
          refine JN rfl rfl rfl rfl rfl ?_
          refine JL_nil ?_
          exact JQ_round (i + 1, m2, t152.1, t152.2) ⟨by dsimp only; omega, hmv2⟩ (by dsimp only; omega) ⟨rfl, rfl, rfl, (congrArg some (by go_num)), trivial⟩ (by repeat constructor)
         ·obtain rfl : m = m2 := by rw [← hm2]; unfold repM; rw [if_neg hre]
          refine J_keep (l' := [(1, _), (12, _), (16, _), (17, _)]) ⟨rfl, rfl, rfl, rfl, trivial⟩ ?_
          refine J_draw [5, 10] (by kernel_rfl) ?_
          refine JAP (i := 0) rfl (rp_move rfl rfl) ?_
          refine JAP (i := 1) rfl (rp_move rfl rfl) ?_
          refine JAP (i := 2) rfl (rp_move rfl rfl) ?_
          refine JAP (i := 3) rfl (rp2 rfl rfl (fun ρ hx hy w => ex_indexE rfl hx hy Try.underlying75 sz_80 (by omega))) ?_
          refine JAP (i := 4) rfl (rp_fieldE (i' := 0) rfl rfl fa_80_0 rfl) ?_
          refine JAL (i := 5) rfl (rv_hold (j := i) (i := 0) rfl rfl ag_3 (fun h => h) hh hlt (by omega) (by rw [hx]; rfl)) ?_
          refine JAP (i := 6) rfl (rp_move rfl rfl) ?_
          refine JAP (i := 7) rfl (rp_move rfl rfl) ?_
          refine JAP (i := 8) rfl (rp2 rfl rfl (fun ρ hx hy w => ex_indexE rfl hx hy Try.underlying75 sz_80 (by omega))) ?_
          refine JAP (i := 9) rfl (rp_fieldE (i' := 1) rfl rfl fa_80_1 rfl) ?_
          refine JAL (i := 10) rfl (rv_hold (j := i) (i := 1) rfl rfl ag_3 (fun h => h) hh hlt (by omega) (by rw [hx]; rfl)) ?_
          refine JA_one (i := 11) (by kernel_rfl) rfl (wn0 rfl) (ow_callM (A := resB t87.bm i m) (T := Unit) (φ := fun _ => True) (V := fun _ => .int .i64 (repE G m x1 x2)) (C := fun _ => resB t87.bm (i + 1) m) (ec_fn rfl rfl cf_36) rfl rfl rfl (fun _ => rfl) (fun _ => (by repeat constructor)) (fun w hw => by have hp := pd_of (T := (N : Nat)) (G := G) (R := R) (t := t87) (k := i) (m := m) hw (by unfold PdG; repeat constructor) ⟨by omega, by omega⟩; have := report36 (N : Nat) G R m x1 x2 w _ _ _ _ i _ _ hp.1 hp.2.1 hp.2.2 (by omega) (by omega) hxw1 hxw2; rw [hm2] at this; exact this)) ⟨by kernel_rfl, .inl (by kernel_rfl)⟩ (fun _ _ => ?_)
          refine JA_done (by kernel_rfl) ?_
          refine JQ_then_n ?_
          refine J_seq ?_
          refine J_keep (l' := [(1, _), (12, _), (16, _), (17, _)]) ⟨rfl, rfl, rfl, rfl, trivial⟩ ?_
          refine J_draw [0, 5, 10] (by kernel_rfl) ?_
          refine JAL (i := 0) rfl (rv_agg (cs := [_, _, _, _]) rfl rfl ag_77 sz_77 (by repeat constructor) (by rfl)) ?_
          refine JAP (i := 1) rfl (rp_move rfl rfl) ?_
          refine JAP (i := 2) rfl (rp_move rfl rfl) ?_
          refine JAP (i := 3) rfl (rp2 rfl rfl (fun ρ hx hy w => ex_indexE rfl hx hy Try.underlying75 sz_80 (by omega))) ?_
          refine JAP (i := 4) rfl (rp_fieldE (i' := 0) rfl rfl fa_80_0 rfl) ?_
          refine JAL (i := 5) rfl (rv_hold (j := i) (i := 0) rfl rfl ag_3 (fun h => h) hh hlt (by omega) (by rw [hx]; rfl)) ?_
          refine JAP (i := 6) rfl (rp_move rfl rfl) ?_
          refine JAP (i := 7) rfl (rp_move rfl rfl) ?_
          refine JAP (i := 8) rfl (rp2 rfl rfl (fun ρ hx hy w => ex_indexE rfl hx hy Try.underlying75 sz_80 (by omega))) ?_
          refine JAP (i := 9) rfl (rp_fieldE (i' := 1) rfl rfl fa_80_1 rfl) ?_
          refine JAL (i := 10) rfl (rv_hold (j := i) (i := 1) rfl rfl ag_3 (fun h => h) hh hlt (by omega) (by rw [hx]; rfl)) ?_
          refine JA_one (i := 11) (by kernel_rfl) rfl (wn0 rfl) (ow_callB (ec_fn rfl rfl cf_42) rfl rfl (fun w hw => Report42_no N G R (wL G.length m) m (wL_ok G m hmv) (by omega) x1 x2 hre w _ _ _ _ _ _ (⟨hG.up EG hw.bel, hR.up EP hw.bel, Arr.of_own EI (hw.ok (ownB 3 1 A8 (wL G.length m).length c8 ((wL G.length m).flatMap eI)) (by repeat constructor)).1 (by rw [wL_len]; omega)⟩ : QdF N G R (wL G.length m) w _ _ A8 c c2 c8))) trivial (fun _ _ => ?_)
          refine JAP (i := 12) rfl (rp_move rfl rfl) ?_
          refine JAP (i := 13) rfl (rp_run1 (f := fun u => Instr.extract u 0) (fun _ => rfl) rfl (fun _ => rfl)) ?_
          refine JAP (i := 14) rfl (rp_run1 (f := fun u => Instr.extract u 1) (fun _ => rfl) rfl (fun _ => rfl)) ?_
          refine JA_one (i := 15) (by kernel_rfl) rfl (wn0 rfl) (ow_store (cs := [_, _, _, _]) (vs' := [_, _, _, _]) rfl rfl rfl rfl rfl sz_77 rfl (by repeat constructor) (by rfl) (by rfl)) ⟨by kernel_rfl, .inl (by kernel_rfl)⟩ (fun _ _ => ?_)
          refine JA_done (by kernel_rfl) ?_
          refine JQ_then_n ?_
          refine J_seq ?_
          have hrl := rdL_len m (tmM m N G G.length) G G.length
          refine J_keep (l' := [(1, _), (12, _), (16, _), (17, _)]) ⟨rfl, rfl, rfl, rfl, trivial⟩ ?_
          refine J_reg ?_
          refine JM rfl rfl rfl rfl rfl ?_
          refine JL_opS (wn0 rfl) (ow_callS (ec_fn rfl rfl cf_40) rfl rfl (fun w hw => (by have hp := pd_of (T := (N : Nat)) (G := G) (R := R) (t := t87) (k := (i + 1)) (m := m) hw (by unfold PdG; repeat constructor) ⟨by omega, by omega⟩; exact Ready40 N G R m w _ _ _ _ (i + 1) _ _ hp.1 hp.2.2 (by omega) (by omega) hG2 hmv))) (fun A156 c156 => ?_)
          refine JL_op (wn0 rfl) (ow_callL [ownB 3 1 A156 (rdL m (tmM m N G G.length) G G.length).length c156 ((rdL m (tmM m N G G.length) G G.length).flatMap eI)] [cellB t87.bp [.int .i64 (N : Nat), .slice t87.A G.length t87.c, .slice t87.A2 R.length t87.c2, .map (some t87.bm)] 86, ownB 90 4 t87.A G.length t87.c (G.flatMap eG), ownB 89 2 t87.A2 R.length t87.c2 (R.flatMap eP), resB t87.bm (i + 1) m, cellB b16 [.int .i64 (N : Nat), .slice (some ⟨bG, pG, none⟩) G.length c, .slice (some ⟨bR, pR, none⟩) R.length c2, .slice A8 (wL G.length m).length c8] 77, ownB 3 1 A8 (wL G.length m).length c8 ((wL G.length m).flatMap eI)] (ec_fn rfl rfl cf_44) rfl rfl (by repeat constructor) rfl (fun _ => rfl) (fun w hw h0 => spoil44 (rdL m (tmM m N G G.length) G G.length) w A156 c156 _ h0 (by omega))) (fun _ _ => ?_)
          refine JL_nil ?_
          refine JQ_then_n ?_
          have hpl : (plcL (tmM m N G G.length) R).length = R.length := by unfold plcL; rw [List.length_map]
          refine J_reg ?_
          refine JM rfl rfl rfl rfl rfl ?_
          refine JL_opS (wn0 rfl) (ow_callS (ec_fn rfl rfl cf_38) rfl rfl (fun w hw => (by have hp := pd_of (T := (N : Nat)) (G := G) (R := R) (t := t87) (k := (i + 1)) (m := m) hw (by unfold PdG; repeat constructor) ⟨by omega, by omega⟩; obtain ⟨n0, c0, -, hmp⟩ := id hp.2.2; exact places38 N G R m w _ _ _ _ n0 c0 _ _ hp.1 hmp (by omega) (by omega) (by omega) hG2 hR2 hmv))) (fun A159 c159 => ?_)
          refine JL_op (wn0 rfl) (ow_callL [ownB 3 1 A159 (plcL (tmM m N G G.length) R).length c159 ((plcL (tmM m N G G.length) R).flatMap eI)] [cellB t87.bp [.int .i64 (N : Nat), .slice t87.A G.length t87.c, .slice t87.A2 R.length t87.c2, .map (some t87.bm)] 86, ownB 90 4 t87.A G.length t87.c (G.flatMap eG), ownB 89 2 t87.A2 R.length t87.c2 (R.flatMap eP), resB t87.bm (i + 1) m, cellB b16 [.int .i64 (N : Nat), .slice (some ⟨bG, pG, none⟩) G.length c, .slice (some ⟨bR, pR, none⟩) R.length c2, .slice A8 (wL G.length m).length c8] 77, ownB 3 1 A8 (wL G.length m).length c8 ((wL G.length m).flatMap eI)] (ec_fn rfl rfl cf_44) rfl rfl (by repeat constructor) rfl (fun _ => rfl) (fun w hw h0 => spoil44 (plcL (tmM m N G G.length) R) w A159 c159 _ h0 (by omega))) (fun _ _ => ?_)
          refine JL_nil ?_
          refine JQ_block_n ?_
          refine JQ_then_n ?_
          refine J_keep (l' := [(1, _), (12, _), (16, _), (17, _)]) ⟨rfl, rfl, rfl, rfl, trivial⟩ ?_
          refine J_reg ?_
          refine JM rfl rfl rfl rfl rfl ?_
          refine JP (rp2 rfl rfl (fun ρ hx hy w => ex_add rfl hx hy (by omega))) ?_
          refine JN rfl rfl rfl rfl rfl ?_
          refine JL_nil ?_
          exact JQ_round (i + 1, m, A8, c8) ⟨by dsimp only; omega, hmv⟩ (by dsimp only; omega) ⟨rfl, rfl, rfl, (congrArg some (by go_num)), trivial⟩ (by repeat constructor)
        ·refine JL_nil ?_
         refine JQ_then_n ?_
         refine J_no rfl rfl ?_
         refine J_exit ?_
         refine JQ_then_x ?_
         refine JQ_then_x ?_
         refine JQ_block_y rfl ?_
         refine JQ_then_n ?_
         refine J_seq ?_
         refine J_keep (l' := [(12, _), (16, _)]) ⟨rfl, rfl, trivial⟩ ?_
         refine J_reg ?_
         refine JM rfl rfl rfl rfl rfl ?_
         refine JV (rv_agg (cs := [_, _, _, _]) rfl rfl ag_77 sz_77 (by repeat constructor) (by rfl)) ?_
         refine JL_op (wn0 rfl) (ow_callB (ec_fn rfl rfl cf_43) rfl rfl (fun w hw => (by have hp := pd_of (T := (N : Nat)) (G := G) (R := R) (t := t87) (k := i) (m := m) hw (by unfold PdG; repeat constructor) ⟨by omega, by omega⟩; exact alike43 N G R (wL G.length m) m (wL_ok G m hmv) hbo w _ _ _ _ i _ _ hp.1 hp.2.2 _ _ _ _ _ _ (⟨hG.up EG hw.bel, hR.up EP hw.bel, Arr.of_own EI (hw.ok (ownB 3 1 A8 (wL G.length m).length c8 ((wL G.length m).flatMap eI)) (by repeat constructor)).1 (by rw [wL_len]; omega)⟩ : QdF N G R (wL G.length m) w _ _ A8 c c2 c8)))) (fun _ _ => ?_)
         refine JM rfl rfl rfl rfl rfl ?_
         refine JL_op (wn_g rfl rfl rfl rfl) (ow_callB (ec_fn rfl rfl cf_14) rfl rfl (fun w hw => awake14 w)) (fun _ _ => ?_)
         refine JP (rp_pickT rfl rfl rfl) ?_
         refine JN rfl rfl rfl rfl rfl ?_
         refine JL_nil ?_
         refine JQ_then_n ?_
         refine J_ret ?_
         refine JR_one rfl (rr_tmp rfl) ?_
         intro w' hw
         exact ⟨rfl, hw.bel⟩
    ·refine JPg (rp1 rfl (fun ρ hx w => ex_not rfl hx)) ?_
     refine JP (rp_pickF rfl rfl rfl) ?_
     refine JL_nil ?_
     refine JQ_then_n ?_
     refine J_yes rfl rfl ?_
     refine J_seq ?_
     refine J_keep (l' := []) trivial ?_
     refine J_reg ?_
     refine JL_op (wn0 rfl) (ow_callB (ec_fn rfl rfl cf_14) rfl rfl (fun w hw => awake14 w)) (fun _ _ => ?_)
     refine JN rfl rfl rfl rfl rfl ?_
     refine JL_nil ?_
     refine JQ_then_n ?_
     refine J_ret ?_
     refine JQ_then_r ?_
     refine JR_one rfl (rr_tmp rfl) ?_
     intro w' hw
     exact ⟨rfl, hw.bel⟩
end Go.Proofs.Ytlfbbofcnonhdaa
