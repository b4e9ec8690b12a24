/- A playdown tells the document's. -/
import Derived.Test.YtlfbbofcnonhdaaCp
import Derived.Test.YtlfbbofcnonhdaaPl
namespace Go.Proofs.Ytlfbbofcnonhdaa
open Go Go.RowKit Go.Proofs

set_option maxRecDepth 100000 in
set_option maxHeartbeats 4000000 in
theorem alike43 (T : Nat) (G : List Gm) (R : List (Int × Int)) (W : List Int) (m : Int → Option Int) (hW : WOk G m W) (hbr : BrOk (T : Nat) G R) (w : World) (bp bm cap cap2 k : Nat) (A A2 : Option Addr) (hp : PdF (T : Nat) G R w bp bm cap cap2 A A2) (hm : (resB bm k m).holds w) (A3 A4 A5 : Option Addr) (c3 c4 c5 : Nat) (hq : QdF T G R W w A3 A4 A5 c3 c4 c5) : Calls Try.prog 43 #[.pointer (some ⟨bp, 0, none⟩), Qdv (T : Nat) A3 G.length c3 A4 R.length c4 A5 W.length c5] w (Back (.bool true) w) := by
 have hbt := hbr.t
 have hbg := hbr.g
 have hbl := hbr.r
 have hbw := hbr.w
 obtain ⟨n0, c0, -, hmp⟩ := id hm
 refine J_enter (fun _ => False) (vs := [.pointer (some ⟨bp, 0, none⟩), Qdv (T : Nat) A3 G.length c3 A4 R.length c4 A5 W.length c5]) (k := 56) (l := [(0, .pointer (some ⟨bp, 0, none⟩)), (1, Qdv (T : Nat) A3 G.length c3 A4 R.length c4 A5 W.length c5)]) Try.func43 rfl rfl Try.ntmps43 rfl rfl (Wd.start _) ?_
 refine J_seq ?_
 refine J_reg ?_
 refine JL_op (wn0 rfl) (ow_box (vs := [_, _, _, _]) rfl rfl rfl rfl rfl) (fun b3 hb3 => ?_)
 refine JN rfl rfl rfl rfl rfl ?_
 refine JL_nil ?_
 refine JQ_then_n ?_
 refine J_seq ?_
 refine J_seq ?_
 refine J_reg ?_
 refine JN rfl rfl rfl rfl rfl ?_
 refine JL_nil ?_
 refine JQ_then_n ?_
 refine J_block ?_
 refine J_loop (T := Nat) (fun q => q ≤ G.length + 2) (fun q => [(0, .pointer (some ⟨bp, 0, none⟩)), (3, .pointer (some ⟨b3, 0, none⟩)), (5, .int .i64 (((q : Nat) : Int) - 1))]) (fun q => [cellB b3 [.int .i64 (T : Nat), .slice A3 G.length c3, .slice A4 R.length c4, .slice A5 W.length c5] 77]) (fun q => G.length + 2 - q) 0 (Nat.zero_le _) ⟨rfl, rfl, rfl, trivial⟩ (by repeat constructor) ?_
 rintro q hq0
 refine J_seq ?_
 refine J_seq ?_
 have hWl := hW.len
 refine J_reg ?_
 refine JM rfl rfl rfl rfl rfl ?_
 refine JP (rp_fieldC (off' := 3) rfl rfl fa_77_1 rfl) ?_
 refine JV (rv_cell rfl rfl ag_26 (by repeat constructor) (by rfl)) ?_
 refine JP (rp1 rfl (fun ρ hx w => ex_len (A := _) (c := _) rfl Try.underlying26 hx)) ?_
 refine JP (rp2 rfl rfl (fun ρ hx hy w => ex_leqD rfl hx hy)) ?_
 refine JL_dec (fun h16 => ?_) (fun h16 => ?_)
 ·refine JL_nil ?_
  refine JQ_then_n ?_
  refine J_yes rfl rfl ?_
  refine J_skip ?_
  refine JQ_then_n ?_
  refine J_seq ?_
  refine J_block ?_
  refine J_seq ?_
  refine J_keep (l' := [(0, _), (3, _), (5, _)]) ⟨rfl, rfl, rfl, trivial⟩ ?_
  refine J_reg ?_
  refine JM rfl rfl rfl rfl rfl ?_
  refine JM rfl rfl rfl rfl rfl ?_
  refine JL_op (wn0 rfl) (ow_callB (ec_fn rfl rfl cf_35) rfl rfl (fun w hw => Teams35 T G R m (((q : Nat) : Int) - 1) w bp bm cap cap2 n0 c0 A A2 (hp.up hw.bel) (hmp.up hw.bel) (by omega) (by omega) hbw.1 hW.v)) (fun _ _ => ?_)
  refine JM rfl rfl rfl rfl rfl ?_
  refine JP (rp_run1 (f := fun u => Instr.extract u 0) (fun _ => rfl) rfl (fun _ => rfl)) ?_
  refine JP (rp_run1 (f := fun u => Instr.extract u 1) (fun _ => rfl) rfl (fun _ => rfl)) ?_
  refine JP (rp_run1 (f := fun u => Instr.extract u 2) (fun _ => rfl) rfl (fun _ => rfl)) ?_
  refine JN rfl rfl rfl rfl rfl ?_
  refine JN rfl rfl rfl rfl rfl ?_
  refine JN rfl rfl rfl rfl rfl ?_
  refine JL_nil ?_
  refine JQ_then_n ?_
  refine J_seq ?_
  refine J_keep (l' := [(0, _), (3, _), (5, _), (6, _), (7, _), (8, _)]) ⟨rfl, rfl, rfl, rfl, rfl, rfl, trivial⟩ ?_
  refine J_reg ?_
  refine JV (rv_agg (cs := [_, _, _, _]) rfl rfl ag_77 sz_77 (by repeat constructor) (by rfl)) ?_
  refine JM rfl rfl rfl rfl rfl ?_
  refine JL_op (wn0 rfl) (ow_callB (ec_fn rfl rfl cf_77) rfl rfl (fun w hw => Teams77 T G R W m hW (by omega) hbr.gm (((q : Nat) : Int) - 1) w _ _ _ c3 c4 c5 (hq.up hw.bel))) (fun _ _ => ?_)
  refine JM rfl rfl rfl rfl rfl ?_
  refine JP (rp_run1 (f := fun u => Instr.extract u 0) (fun _ => rfl) rfl (fun _ => rfl)) ?_
  refine JP (rp_run1 (f := fun u => Instr.extract u 1) (fun _ => rfl) rfl (fun _ => rfl)) ?_
  refine JP (rp_run1 (f := fun u => Instr.extract u 2) (fun _ => rfl) rfl (fun _ => rfl)) ?_
  refine JN rfl rfl rfl rfl rfl ?_
  refine JN rfl rfl rfl rfl rfl ?_
  refine JN rfl rfl rfl rfl rfl ?_
  refine JL_nil ?_
  refine JQ_then_n ?_
  refine J_seq ?_
  refine J_keep (l' := [(0, _), (3, _), (5, _), (6, _), (7, _), (8, _), (9, _), (10, _), (11, _)]) ⟨rfl, rfl, rfl, rfl, rfl, rfl, rfl, rfl, rfl, trivial⟩ ?_
  refine J_reg ?_
  refine JM rfl rfl rfl rfl rfl ?_
  refine JM rfl rfl rfl rfl rfl ?_
  refine JP (rp2 rfl rfl (fun ρ hx hy w => ex_neqD rfl hx hy)) ?_
  refine JL_decF (fun h => h rfl) ?_
  refine JM rfl rfl rfl rfl rfl ?_
  refine JPg (rp_move rfl rfl) ?_
  refine JPg (rp_move rfl rfl) ?_
  refine JPg (rp2 rfl rfl (fun ρ hx hy w => ex_neqD rfl hx hy)) ?_
  refine JL_decF (fun h => h rfl) ?_
  refine JP (rp_pickF rfl rfl rfl) ?_
  refine JM rfl rfl rfl rfl rfl ?_
  refine JPg (rp_move rfl rfl) ?_
  refine JPg (rp_move rfl rfl) ?_
  refine JPg (rp2 rfl rfl (fun ρ hx hy w => ex_neq29 rfl hx hy)) ?_
  refine JL_decF (fun h => h rfl) ?_
  refine JP (rp_pickF rfl rfl rfl) ?_
  refine JL_nil ?_
  refine JQ_then_n ?_
  refine J_no rfl rfl ?_
  refine J_skip ?_
  refine JQ_block_n ?_
  refine JQ_then_n ?_
  refine J_keep (l' := [(0, _), (3, _), (5, _)]) ⟨rfl, rfl, rfl, trivial⟩ ?_
  refine J_reg ?_
  refine JM rfl rfl rfl rfl rfl ?_
  refine JP (rp2 rfl rfl (fun ρ hx hy w => ex_add rfl hx hy (by omega))) ?_
  refine JN rfl rfl rfl rfl rfl ?_
  refine JL_nil ?_
  exact JQ_round (q + 1) (by omega) (by omega) ⟨rfl, rfl, (congrArg (fun z => some (Value.int .i64 z)) (by omega)), trivial⟩ (by repeat constructor)
 ·refine JL_nil ?_
  refine JQ_then_n ?_
  refine J_no rfl rfl ?_
  refine J_exit ?_
  refine JQ_then_x ?_
  refine JQ_then_x ?_
  refine JQ_block_y rfl ?_
  refine JQ_then_n ?_
  refine J_seq ?_
  have hrl := rdL_len m (tmM m T G G.length) G G.length
  have hpl : (plcL (tmM m T G G.length) R).length = R.length := by unfold plcL; rw [List.length_map]
  refine J_keep (l' := [(0, _), (3, _)]) ⟨rfl, rfl, trivial⟩ ?_
  refine J_draw [2, 8] (by kernel_rfl) ?_
  refine JAP (i := 0) rfl (rp_move rfl rfl) ?_
  refine JAL (i := 2) rfl (rv_agg (cs := [_, _, _, _]) rfl rfl ag_77 sz_77 (by repeat constructor) (by rfl)) ?_
  refine JA_oneS (i := 1) (by kernel_rfl) rfl (wn0 rfl) (ow_callS (ec_fn rfl rfl cf_40) rfl rfl (fun w hw => Ready40 T G R m w bp bm cap cap2 k A A2 (hp.up hw.bel) ((resB bm k m).st _ _ (fun b hb => hw.bel.block b (by cases hb; exact resB_lt hm)) hm) (by omega) (by omega) hbw.1 hW.v)) trivial (fun A47 c47 => ?_)
  refine JA_oneS (i := 3) (by kernel_rfl) rfl (wn0 rfl) (ow_callS (ec_fn rfl rfl cf_78) rfl rfl (fun w hw => Ready78 T G R W m hW (by omega) hbr.gm w _ _ _ c3 c4 c5 (hq.up hw.bel))) trivial (fun A49 c49 => ?_)
  refine JA_one (i := 4) (by kernel_rfl) rfl (wn0 rfl) (ow_callB (ec_fn rfl rfl cf_39) rfl rfl (fun w hw => Ints39 (rdL m (tmM m T G G.length) G G.length) (rdL m (tmM m T G G.length) G G.length) _ _ w (Arr.of_own EI (hw.ok (ownB 3 1 A47 (rdL m (tmM m T G G.length) G G.length).length c47 ((rdL m (tmM m T G G.length) G G.length).flatMap eI)) (by repeat constructor)).1 (by omega)) (Arr.of_own EI (hw.ok (ownB 3 1 A49 (rdL m (tmM m T G G.length) G G.length).length c49 ((rdL m (tmM m T G G.length) G G.length).flatMap eI)) (by repeat constructor)).1 (by omega)))) trivial (fun _ _ => ?_)
  refine JA_boolT (decide_eq_true rfl) ?_
  refine JAP (i := 5) rfl (rp_move rfl rfl) ?_
  refine JA_takeP (i := 6) rfl rfl (by kernel_rfl) (by kernel_rfl) (by kernel_rfl) rfl (wn_g rfl rfl rfl rfl) (rp_move rfl rfl) rfl ?_
  refine JA_takeL (i := 8) rfl rfl (by kernel_rfl) (by kernel_rfl) (by kernel_rfl) rfl rfl (by repeat constructor) (wn_g rfl rfl rfl rfl) (rv_agg (cs := [_, _, _, _]) rfl rfl ag_77 sz_77 (by repeat constructor) (by rfl)) rfl ?_
  refine JA_oneS (i := 7) (by kernel_rfl) rfl (wn_g rfl rfl rfl rfl) (ow_callS (ec_fn rfl rfl cf_38) rfl rfl (fun w hw => places38 T G R m w bp bm cap cap2 n0 c0 A A2 (hp.up hw.bel) (hmp.up hw.bel) (by omega) (by omega) (by omega) hbw.1 hbw.2 hW.v)) trivial (fun A53 c53 => ?_)
  refine JA_oneS (i := 9) (by kernel_rfl) rfl (wn_g rfl rfl rfl rfl) (ow_callS (ec_fn rfl rfl cf_79) rfl rfl (fun w hw => Places79 T G R W m hW (by omega) hbr.gm hbr.pl (by omega) w _ _ _ c3 c4 c5 (hq.up hw.bel))) trivial (fun A55 c55 => ?_)
  refine JA_one (i := 10) (by kernel_rfl) rfl (wn_g rfl rfl rfl rfl) (ow_callB (ec_fn rfl rfl cf_39) rfl rfl (fun w hw => Ints39 (plcL (tmM m T G G.length) R) (plcL (tmM m T G G.length) R) _ _ w (Arr.of_own EI (hw.ok (ownB 3 1 A53 (plcL (tmM m T G G.length) R).length c53 ((plcL (tmM m T G G.length) R).flatMap eI)) (by repeat constructor)).1 (by omega)) (Arr.of_own EI (hw.ok (ownB 3 1 A55 (plcL (tmM m T G G.length) R).length c55 ((plcL (tmM m T G G.length) R).flatMap eI)) (by repeat constructor)).1 (by omega)))) trivial (fun _ _ => ?_)
  refine JA_boolT (decide_eq_true rfl) ?_
  refine JAP (i := 11) rfl (rp_pickT rfl rfl rfl) ?_
  refine JAP (i := 12) rfl (rp_assign rfl rfl) ?_
  refine JA_done (by kernel_rfl) ?_
  refine JQ_then_n ?_
  refine J_ret ?_
  refine JR_one rfl (rr_tmp rfl) ?_
  intro w' hw
  exact ⟨rfl, hw.bel⟩
end Go.Proofs.Ytlfbbofcnonhdaa
