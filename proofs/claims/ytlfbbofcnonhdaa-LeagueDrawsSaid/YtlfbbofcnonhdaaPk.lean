/- LeagueDraws: the walk. -/
import Derived.Test.YtlfbbofcnonhdaaPj
namespace Go.Proofs.Ytlfbbofcnonhdaa
open Go Go.RowKit Go.Proofs

set_option maxRecDepth 100000 in
set_option maxHeartbeats 4000000 in
theorem Draws22_no (T L : Int) (h : ¬ ((2 ≤ T ∧ T ≤ 16) ∧ (1 ≤ L ∧ L ≤ 8))) (w : World) : Calls Try.prog 22 #[.int .i64 T, .int .i64 L] w (Back (.tuple #[.slice none 0 0, .int .i64 4]) w) := by
 refine J_enter (fun _ => False) (vs := [.int .i64 T, .int .i64 L]) (k := 28) (l := [(0, .int .i64 T), (1, .int .i64 L)]) Try.func22 rfl rfl Try.ntmps22 rfl rfl (Wd.start _) ?_
 refine J_seq ?_
 refine J_reg ?_
 refine JL_op (wn0 rfl) (ow_box (vs := [_]) rfl rfl rfl rfl rfl) (fun b3 hb3 => ?_)
 refine JN rfl rfl rfl rfl rfl ?_
 refine JN rfl rfl rfl rfl rfl ?_
 refine JL_nil ?_
 refine JQ_then_n ?_
 refine J_seq ?_
 refine J_seq ?_
 by_cases hT : 2 ≤ T ∧ T ≤ 16
 ·refine J_reg ?_
  refine JM rfl rfl rfl rfl rfl ?_
  refine JL_op (wn0 rfl) (ow_callP (ec_fn rfl rfl cf_47) rfl rfl (fun w hw => within47 T 2 16 w)) (fun _ _ => ?_)
  refine JL_boolT (decide_eq_true hT) ?_
  refine JL_val rfl (wn0 rfl) (RP.rv (rp1 rfl (fun ρ hx w => ex_not rfl hx))) rfl ?_
  refine JM rfl rfl rfl rfl rfl ?_
  refine JL_val rfl (wn_g rfl rfl rfl rfl) (rv_cell rfl rfl ag_3 (by repeat (first | exact List.Mem.head _ | apply List.Mem.tail)) (by rfl)) rfl ?_
  refine JL_op (wn_g rfl rfl rfl rfl) (ow_callP (ec_fn rfl rfl cf_47) rfl rfl (fun w hw => within47 L 1 8 w)) (fun _ _ => ?_)
  refine JL_boolF (decide_eq_false (fun g => h ⟨hT, g⟩)) ?_
  refine JL_val rfl (wn_g rfl rfl rfl rfl) (RP.rv (rp1 rfl (fun ρ hx w => ex_not rfl hx))) rfl ?_
  refine JL_val rfl (wn0 rfl) (RP.rv (rp_pickF rfl rfl rfl)) rfl ?_
  refine JL_nil ?_
  refine JQ_then_n ?_
  refine J_yes rfl rfl ?_
  refine J_seq ?_
  refine J_keep (l' := []) trivial ?_
  refine J_reg ?_
  refine JN rfl rfl rfl rfl rfl ?_
  refine JN rfl rfl rfl rfl rfl ?_
  refine JL_nil ?_
  refine JQ_then_n ?_
  refine J_ret ?_
  refine JQ_then_r ?_
  refine JR_two rfl (rr_tmp rfl) (rr_tmp rfl) ?_
  intro w' hw
  exact ⟨rfl, hw.bel⟩
 ·refine J_reg ?_
  refine JM rfl rfl rfl rfl rfl ?_
  refine JL_op (wn0 rfl) (ow_callP (ec_fn rfl rfl cf_47) rfl rfl (fun w hw => within47 T 2 16 w)) (fun _ _ => ?_)
  refine JL_boolF (decide_eq_false hT) ?_
  refine JL_val rfl (wn0 rfl) (RP.rv (rp1 rfl (fun ρ hx w => ex_not rfl hx))) rfl ?_
  refine JM rfl rfl rfl rfl rfl ?_
  refine JL_off rfl (wn_g rfl rfl rfl rfl) rfl ?_
  refine JL_off rfl (wn_g rfl rfl rfl rfl) rfl ?_
  refine JL_off rfl (wn_g rfl rfl rfl rfl) rfl ?_
  refine JL_val rfl (wn0 rfl) (RP.rv (rp_pickT rfl rfl rfl)) rfl ?_
  refine JL_nil ?_
  refine JQ_then_n ?_
  refine J_yes rfl rfl ?_
  refine J_seq ?_
  refine J_keep (l' := []) trivial ?_
  refine J_reg ?_
  refine JN rfl rfl rfl rfl rfl ?_
  refine JN rfl rfl rfl rfl rfl ?_
  refine JL_nil ?_
  refine JQ_then_n ?_
  refine J_ret ?_
  refine JQ_then_r ?_
  refine JR_two rfl (rr_tmp rfl) (rr_tmp rfl) ?_
  intro w' hw
  exact ⟨rfl, hw.bel⟩
set_option maxRecDepth 100000 in
set_option maxHeartbeats 4000000 in
theorem Draws23_no (T L : Int) (h : ¬ ((2 ≤ T ∧ T ≤ 16) ∧ (1 ≤ L ∧ L ≤ 8))) (w : World) : Calls Try.prog 23 #[.int .i64 T, .int .i64 L] w (Back (.tuple #[.slice none 0 0, .int .i64 4]) w) := by
 refine J_enter (fun _ => False) (vs := [.int .i64 T, .int .i64 L]) (k := 80) (l := [(0, .int .i64 T), (1, .int .i64 L)]) Try.func23 rfl rfl Try.ntmps23 rfl rfl (Wd.start _) ?_
 refine J_seq ?_
 refine J_reg ?_
 refine JN rfl rfl rfl rfl rfl ?_
 refine JN rfl rfl rfl rfl rfl ?_
 refine JL_nil ?_
 refine JQ_then_n ?_
 refine J_seq ?_
 refine J_seq ?_
 by_cases hT : 2 ≤ T ∧ T ≤ 16
 ·refine J_reg ?_
  refine JM rfl rfl rfl rfl rfl ?_
  refine JL_op (wn0 rfl) (ow_callP (ec_fn rfl rfl cf_52) rfl rfl (fun w hw => in52 T 2 16 w)) (fun _ _ => ?_)
  refine JL_boolT (decide_eq_true hT) ?_
  refine JL_val rfl (wn0 rfl) (RP.rv (rp1 rfl (fun ρ hx w => ex_not rfl hx))) rfl ?_
  refine JM rfl rfl rfl rfl rfl ?_
  refine JL_val rfl (wn_g rfl rfl rfl rfl) (RP.rv (rp_move rfl rfl)) rfl ?_
  refine JL_op (wn_g rfl rfl rfl rfl) (ow_callP (ec_fn rfl rfl cf_52) rfl rfl (fun w hw => in52 L 1 8 w)) (fun _ _ => ?_)
  refine JL_boolF (decide_eq_false (fun g => h ⟨hT, g⟩)) ?_
  refine JL_val rfl (wn_g rfl rfl rfl rfl) (RP.rv (rp1 rfl (fun ρ hx w => ex_not rfl hx))) rfl ?_
  refine JL_val rfl (wn0 rfl) (RP.rv (rp_pickF rfl rfl rfl)) rfl ?_
  refine JL_nil ?_
  refine JQ_then_n ?_
  refine J_yes rfl rfl ?_
  refine J_seq ?_
  refine J_keep (l' := []) trivial ?_
  refine J_reg ?_
  refine JN rfl rfl rfl rfl rfl ?_
  refine JN rfl rfl rfl rfl rfl ?_
  refine JL_nil ?_
  refine JQ_then_n ?_
  refine J_ret ?_
  refine JQ_then_r ?_
  refine JR_two rfl (rr_tmp rfl) (rr_tmp rfl) ?_
  intro w' hw
  exact ⟨rfl, hw.bel⟩
 ·refine J_reg ?_
  refine JM rfl rfl rfl rfl rfl ?_
  refine JL_op (wn0 rfl) (ow_callP (ec_fn rfl rfl cf_52) rfl rfl (fun w hw => in52 T 2 16 w)) (fun _ _ => ?_)
  refine JL_boolF (decide_eq_false hT) ?_
  refine JL_val rfl (wn0 rfl) (RP.rv (rp1 rfl (fun ρ hx w => ex_not rfl hx))) rfl ?_
  refine JM rfl rfl rfl rfl rfl ?_
  refine JL_off rfl (wn_g rfl rfl rfl rfl) rfl ?_
  refine JL_off rfl (wn_g rfl rfl rfl rfl) rfl ?_
  refine JL_off rfl (wn_g rfl rfl rfl rfl) rfl ?_
  refine JL_val rfl (wn0 rfl) (RP.rv (rp_pickT rfl rfl rfl)) rfl ?_
  refine JL_nil ?_
  refine JQ_then_n ?_
  refine J_yes rfl rfl ?_
  refine J_seq ?_
  refine J_keep (l' := []) trivial ?_
  refine J_reg ?_
  refine JN rfl rfl rfl rfl rfl ?_
  refine JN rfl rfl rfl rfl rfl ?_
  refine JL_nil ?_
  refine JQ_then_n ?_
  refine J_ret ?_
  refine JQ_then_r ?_
  refine JR_two rfl (rr_tmp rfl) (rr_tmp rfl) ?_
  intro w' hw
  exact ⟨rfl, hw.bel⟩
set_option maxRecDepth 100000 in
set_option maxHeartbeats 4000000 in
theorem Draws_no4 (T L : Int) (h : ¬ ((2 ≤ T ∧ T ≤ 16) ∧ (1 ≤ L ∧ L ≤ 8))) (w : World) : Calls Try.prog 4 #[.int .i64 T, .int .i64 L] w (Back (.bool true) w) := by
 refine J_enter (fun _ => False) (vs := [.int .i64 T, .int .i64 L]) (k := 128) (l := [(0, .int .i64 T), (1, .int .i64 L)]) Try.func4 rfl rfl Try.ntmps4 rfl rfl (Wd.start _) ?_
 refine J_seq ?_
 refine J_reg ?_
 refine JN rfl rfl rfl rfl rfl ?_
 refine JL_nil ?_
 refine JQ_then_n ?_
 refine J_seq ?_
 refine J_reg ?_
 refine JM rfl rfl rfl rfl rfl ?_
 refine JM rfl rfl rfl rfl rfl ?_
 refine JL_op (wn0 rfl) (ow_callB (ec_fn rfl rfl cf_22) rfl rfl (fun w hw => Draws22_no T L h w)) (fun _ _ => ?_)
 refine JM rfl rfl rfl rfl rfl ?_
 refine JL_val rfl (wn0 rfl) (RP.rv (rp_run1 (f := fun u => Instr.extract u 0) (fun _ => rfl) rfl (fun _ => rfl))) rfl ?_
 refine JL_val rfl (wn0 rfl) (RP.rv (rp_run1 (f := fun u => Instr.extract u 1) (fun _ => rfl) rfl (fun _ => rfl))) rfl ?_
 refine JN rfl rfl rfl rfl rfl ?_
 refine JN rfl rfl rfl rfl rfl ?_
 refine JL_nil ?_
 refine JQ_then_n ?_
 refine J_seq ?_
 refine J_keep (l' := [(0, _), (1, _), (5, _), (6, _)]) ⟨rfl, rfl, rfl, rfl, trivial⟩ ?_
 refine J_reg ?_
 refine JM rfl rfl rfl rfl rfl ?_
 refine JM rfl rfl rfl rfl rfl ?_
 refine JL_op (wn0 rfl) (ow_callB (ec_fn rfl rfl cf_23) rfl rfl (fun w hw => Draws23_no T L h w)) (fun _ _ => ?_)
 refine JM rfl rfl rfl rfl rfl ?_
 refine JL_val rfl (wn0 rfl) (RP.rv (rp_run1 (f := fun u => Instr.extract u 0) (fun _ => rfl) rfl (fun _ => rfl))) rfl ?_
 refine JL_val rfl (wn0 rfl) (RP.rv (rp_run1 (f := fun u => Instr.extract u 1) (fun _ => rfl) rfl (fun _ => rfl))) rfl ?_
 refine JN rfl rfl rfl rfl rfl ?_
 refine JN rfl rfl rfl rfl rfl ?_
 refine JL_nil ?_
 refine JQ_then_n ?_
 refine J_seq ?_
 refine J_seq ?_
 refine J_keep (l' := [(0, _), (1, _), (5, _), (6, _), (7, _), (8, _)]) ⟨rfl, rfl, rfl, rfl, rfl, rfl, trivial⟩ ?_
 refine J_reg ?_
 refine JM rfl rfl rfl rfl rfl ?_
 refine JM rfl rfl rfl rfl rfl ?_
 refine JL_op (wn0 rfl) (ow_callB (ec_fn rfl rfl cf_24) rfl rfl (fun w hw => SameDraws24 [] [] _ _ w ⟨none, 0, rfl, Nat.le_refl _, ⟨Nat.zero_le _, Nat.zero_le _⟩, fun h => absurd rfl h⟩ ⟨none, 0, rfl, Nat.le_refl _, ⟨Nat.zero_le _, Nat.zero_le _⟩, fun h => absurd rfl h⟩ nofun nofun)) (fun _ _ => ?_)
 refine JL_boolT rfl ?_
 refine JL_val rfl (wn0 rfl) (RP.rv (rp1 rfl (fun ρ hx w => ex_not rfl hx))) rfl ?_
 refine JM rfl rfl rfl rfl rfl ?_
 refine JL_val rfl (wn_g rfl rfl rfl rfl) (RP.rv (rp_move rfl rfl)) rfl ?_
 refine JL_val rfl (wn_g rfl rfl rfl rfl) (RP.rv (rp_move rfl rfl)) rfl ?_
 refine JL_val rfl (wn_g rfl rfl rfl rfl) (RP.rv (rp2 rfl rfl (fun ρ hx hy w => ex_neq29 rfl hx hy))) rfl ?_
 refine JL_decF (by omega) ?_
 refine JL_val rfl (wn0 rfl) (RP.rv (rp_pickF rfl rfl rfl)) rfl ?_
 refine JL_nil ?_
 refine JQ_then_n ?_
 refine J_no rfl rfl ?_
 refine J_skip ?_
 refine JQ_then_n ?_
 refine J_seq ?_
 refine J_keep (l' := [(0, _), (1, _), (5, _), (6, _)]) ⟨rfl, rfl, rfl, rfl, trivial⟩ ?_
 refine J_reg ?_
 refine JL_op (wn0 rfl) (ow_makeMet rfl rfl rfl) (fun b35 hb35 => ?_)
 refine JN rfl rfl rfl rfl rfl ?_
 refine JL_nil ?_
 refine JQ_then_n ?_
 refine J_seq ?_
 refine J_seq ?_
 refine J_reg ?_
 refine JN rfl rfl rfl rfl rfl ?_
 refine JL_nil ?_
 refine JQ_then_n ?_
 refine J_block ?_
 refine J_loop (T := Unit) (fun _ => True) (fun _ => [(0, .int .i64 T), (5, .slice none 0 0), (6, .int .i64 4), (9, .map (some b35)), (10, .int .i64 0)]) (fun _ => [metB b35 []]) (fun _ => 0) () trivial ⟨rfl, rfl, rfl, rfl, rfl, trivial⟩ (by repeat (first | exact Pk.nil _ | (refine Pk.pick (by repeat (first | exact Rm.here _ | apply Rm.there)) ?_))) ?_
 rintro - -
 refine J_seq ?_
 refine J_seq ?_
 refine J_reg ?_
 refine JM rfl rfl rfl rfl rfl ?_
 refine JM rfl rfl rfl rfl rfl ?_
 refine JL_val rfl (wn0 rfl) (RP.rv (rp1 rfl (fun ρ hx w => ex_len (A := _) (c := _) rfl Try.underlying35 hx))) rfl ?_
 refine JL_val rfl (wn0 rfl) (RP.rv (rp2 rfl rfl (fun ρ hx hy w => ex_lssD rfl hx hy))) rfl ?_
 refine JL_decF (by omega) ?_
 refine JL_nil ?_
 refine JQ_then_n ?_
 refine J_no rfl rfl ?_
 refine J_exit ?_
 refine JQ_then_x ?_
 refine JQ_then_x ?_
 refine JQ_block_y rfl ?_
 refine JQ_then_n ?_
 refine J_seq ?_
 refine J_keep (l' := [(0, _), (6, _), (9, _)]) ⟨rfl, rfl, rfl, trivial⟩ ?_
 refine J_reg ?_
 refine JM rfl rfl rfl rfl rfl ?_
 refine JL_val rfl (wn0 rfl) (RP.rv (rp2 rfl rfl (fun ρ hx hy w => ex_neq29 rfl hx hy))) rfl ?_
 refine JL_decT (by omega) ?_
 refine JM rfl rfl rfl rfl rfl ?_
 refine JL_off rfl (wn_g rfl rfl rfl rfl) rfl ?_
 refine JL_off rfl (wn_g rfl rfl rfl rfl) rfl ?_
 refine JL_off rfl (wn_g rfl rfl rfl rfl) rfl ?_
 refine JL_off rfl (wn_g rfl rfl rfl rfl) rfl ?_
 refine JL_off rfl (wn_g rfl rfl rfl rfl) rfl ?_
 refine JL_off rfl (wn_g rfl rfl rfl rfl) rfl ?_
 refine JL_off rfl (wn_g rfl rfl rfl rfl) rfl ?_
 refine JL_off rfl (wn_g rfl rfl rfl rfl) rfl ?_
 refine JL_val rfl (wn0 rfl) (RP.rv (rp_pickT rfl rfl rfl)) rfl ?_
 refine JM rfl rfl rfl rfl rfl ?_
 refine JL_op (wn_g rfl rfl rfl rfl) (ow_callB (ec_fn rfl rfl cf_14) rfl rfl (fun w hw => awake14 w)) (fun _ _ => ?_)
 refine JL_val rfl (wn0 rfl) (RP.rv (rp_pickT rfl rfl rfl)) rfl ?_
 refine JN rfl rfl rfl rfl rfl ?_
 refine JL_nil ?_
 refine JQ_then_n ?_
 refine J_ret ?_
 refine JR_one rfl (rr_tmp rfl) ?_
 intro w' hw
 exact ⟨rfl, hw.bel⟩
set_option maxRecDepth 100000 in
set_option maxHeartbeats 4000000 in
theorem Draws_yes4 (T L : Nat) (hT : 2 ≤ T ∧ T ≤ 16) (hL : 1 ≤ L ∧ L ≤ 8) (w : World) : Calls Try.prog 4 #[.int .i64 (T : Nat), .int .i64 (L : Nat)] w (Back (.bool true) w) := by
 refine J_enter (fun _ => False) (vs := [.int .i64 (T : Nat), .int .i64 (L : Nat)]) (k := 128) (l := [(0, .int .i64 (T : Nat)), (1, .int .i64 (L : Nat))]) Try.func4 rfl rfl Try.ntmps4 rfl rfl (Wd.start _) ?_
 refine J_seq ?_
 refine J_reg ?_
 refine JN rfl rfl rfl rfl rfl ?_
 refine JL_nil ?_
 refine JQ_then_n ?_
 refine J_seq ?_
 refine J_reg ?_
 refine JM rfl rfl rfl rfl rfl ?_
 refine JM rfl rfl rfl rfl rfl ?_
 refine JL_op (wn0 rfl) (ow_callDE (ec_fn rfl rfl cf_22) rfl rfl (fun w hw => draws22 T L hT hL w)) (fun t17 ht17 => ?_)
 obtain ⟨A17, c17, D⟩ := t17
 dsimp only at ht17 ⊢
 have ht17 : D.map Dv.l = drI T L (cir T) := ht17
 have hDl : D.length ≤ 9 * 17 := by
   have h1 := drI_len (T := T) (by omega) L (cir T)
   have h2 : cir T ≤ 17 := by unfold cir; omega
   rw [← ht17, List.length_map] at h1
   omega
 refine JM rfl rfl rfl rfl rfl ?_
 refine JL_val rfl (wn0 rfl) (RP.rv (rp_run1 (f := fun u => Instr.extract u 0) (fun _ => rfl) rfl (fun _ => rfl))) rfl ?_
 refine JL_val rfl (wn0 rfl) (RP.rv (rp_run1 (f := fun u => Instr.extract u 1) (fun _ => rfl) rfl (fun _ => rfl))) rfl ?_
 refine JN rfl rfl rfl rfl rfl ?_
 refine JN rfl rfl rfl rfl rfl ?_
 refine JL_nil ?_
 refine JQ_then_n ?_
 refine J_seq ?_
 refine J_keep (l' := [(0, _), (1, _), (5, _), (6, _)]) ⟨rfl, rfl, rfl, rfl, trivial⟩ ?_
 refine J_reg ?_
 refine JM rfl rfl rfl rfl rfl ?_
 refine JM rfl rfl rfl rfl rfl ?_
 refine JL_op (wn0 rfl) (ow_callDE (ec_fn rfl rfl cf_23) rfl rfl (fun w hw => Draws23 T L hT hL w)) (fun t23 ht23 => ?_)
 obtain ⟨A23, c23, E⟩ := t23
 dsimp only at ht23 ⊢
 have ht23 : E.map Dv.l = drI T L (cir T) := ht23
 have hEl : E.length ≤ 9 * 17 := by
   have h1 := drI_len (T := T) (by omega) L (cir T)
   have h2 : cir T ≤ 17 := by unfold cir; omega
   rw [← ht23, List.length_map] at h1
   omega
 refine JM rfl rfl rfl rfl rfl ?_
 refine JL_val rfl (wn0 rfl) (RP.rv (rp_run1 (f := fun u => Instr.extract u 0) (fun _ => rfl) rfl (fun _ => rfl))) rfl ?_
 refine JL_val rfl (wn0 rfl) (RP.rv (rp_run1 (f := fun u => Instr.extract u 1) (fun _ => rfl) rfl (fun _ => rfl))) rfl ?_
 refine JN rfl rfl rfl rfl rfl ?_
 refine JN rfl rfl rfl rfl rfl ?_
 refine JL_nil ?_
 refine JQ_then_n ?_
 refine J_seq ?_
 refine J_seq ?_
 refine J_keep (l' := [(0, _), (1, _), (5, _), (6, _), (7, _), (8, _)]) ⟨rfl, rfl, rfl, rfl, rfl, rfl, trivial⟩ ?_
 refine J_reg ?_
 refine JM rfl rfl rfl rfl rfl ?_
 refine JM rfl rfl rfl rfl rfl ?_
 refine JL_op (wn0 rfl) (ow_callB (ec_fn rfl rfl cf_24) rfl rfl (fun w hw => (by have := SameDraws24 D E _ _ w (Arr.of_own ED (hw.ok (ownB 41 1 A17 D.length c17 (D.flatMap eD)) (by repeat (first | exact List.Mem.head _ | apply List.Mem.tail))).1 (by omega)) (Arr.of_own ED (hw.ok (ownB 41 1 A23 E.length c23 (E.flatMap eD)) (by repeat (first | exact List.Mem.head _ | apply List.Mem.tail))).1 (by omega)) (hw.ok (slsB 2 eP D) (by repeat (first | exact List.Mem.head _ | apply List.Mem.tail))).1 (hw.ok (slsB 2 eP E) (by repeat (first | exact List.Mem.head _ | apply List.Mem.tail))).1; rw [ht17, ht23] at this; exact this))) (fun _ _ => ?_)
 refine JL_boolT (decide_eq_true rfl) ?_
 refine JL_val rfl (wn0 rfl) (RP.rv (rp1 rfl (fun ρ hx w => ex_not rfl hx))) rfl ?_
 refine JM rfl rfl rfl rfl rfl ?_
 refine JL_val rfl (wn_g rfl rfl rfl rfl) (RP.rv (rp_move rfl rfl)) rfl ?_
 refine JL_val rfl (wn_g rfl rfl rfl rfl) (RP.rv (rp_move rfl rfl)) rfl ?_
 refine JL_val rfl (wn_g rfl rfl rfl rfl) (RP.rv (rp2 rfl rfl (fun ρ hx hy w => ex_neq29 rfl hx hy))) rfl ?_
 refine JL_decF (by omega) ?_
 refine JL_val rfl (wn0 rfl) (RP.rv (rp_pickF rfl rfl rfl)) rfl ?_
 refine JL_nil ?_
 refine JQ_then_n ?_
 refine J_no rfl rfl ?_
 refine J_skip ?_
 refine JQ_then_n ?_
 refine J_seq ?_
 have hok := dr_ok hT hL
 rw [← ht17] at hok
 have hfl : 0 < T * (T - 1) / 2 ∧ T * (T - 1) / 2 ≤ 120 := by
   have : ∀ T : Fin 17, 2 ≤ T.1 → 0 < T.1 * (T.1 - 1) / 2 ∧ T.1 * (T.1 - 1) / 2 ≤ 120 := by decide
   exact this ⟨T, by omega⟩ hT.1
 have hDp : 0 < D.length := by
   rcases Nat.eq_zero_or_pos D.length with h | h
   · rw [List.length_eq_zero_iff.1 h] at hok
     have := hok.2
     simp at this
     omega
   · exact h
 refine J_fact (fun hf => ?_)
 obtain ⟨g17, rfl⟩ := own_some (A := A17) (ty := 41) (k := 1) (m := D.length) hf (by repeat (first | exact List.Mem.head _ | apply List.Mem.tail)) hDp
 refine J_keep (l' := [(0, _), (1, _), (5, _), (6, _)]) ⟨rfl, rfl, rfl, rfl, trivial⟩ ?_
 refine J_reg ?_
 refine JL_op (wn0 rfl) (ow_makeMet rfl rfl rfl) (fun b35 hb35 => ?_)
 refine JN rfl rfl rfl rfl rfl ?_
 refine JL_nil ?_
 refine JQ_then_n ?_
 refine J_seq ?_
 refine J_seq ?_
 refine J_reg ?_
 refine JN rfl rfl rfl rfl rfl ?_
 refine JL_nil ?_
 refine JQ_then_n ?_
 refine J_block ?_
 refine J_loop (T := Nat) (fun i => i ≤ D.length) (fun i => [(0, .int .i64 (T : Nat)), (1, .int .i64 (L : Nat)), (5, .slice (some ⟨g17, 0, none⟩) D.length c17), (6, .int .i64 0), (9, .map (some b35)), (10, .int .i64 (i : Nat))]) (fun i => [metB b35 (mts (D.map Dv.l) i [] 0), ownB 41 1 (some ⟨g17, 0, none⟩) D.length c17 (D.flatMap eD), slsB 2 eP D]) (fun i => D.length - i) 0 (Nat.zero_le _) ⟨rfl, rfl, rfl, rfl, rfl, rfl, trivial⟩ (by repeat (first | exact Pk.nil _ | (refine Pk.pick (by repeat (first | exact Rm.here _ | apply Rm.there)) ?_))) ?_
 rintro i hi
 refine J_seq ?_
 refine J_seq ?_
 refine J_reg ?_
 refine JM rfl rfl rfl rfl rfl ?_
 refine JM rfl rfl rfl rfl rfl ?_
 refine JL_val rfl (wn0 rfl) (RP.rv (rp1 rfl (fun ρ hx w => ex_len (A := _) (c := _) rfl Try.underlying35 hx))) rfl ?_
 refine JL_val rfl (wn0 rfl) (RP.rv (rp2 rfl rfl (fun ρ hx hy w => ex_lssD rfl hx hy))) rfl ?_
 refine JL_dec (fun h39 => ?_) (fun h39 => ?_)
 ·refine JL_nil ?_
  refine JQ_then_n ?_
  refine J_yes rfl rfl ?_
  refine J_skip ?_
  refine JQ_then_n ?_
  refine J_seq ?_
  refine J_block ?_
  refine J_seq ?_
  refine J_keep (l' := [(0, _), (1, _), (5, _), (6, _), (9, _), (10, _)]) ⟨rfl, rfl, rfl, rfl, rfl, rfl, trivial⟩ ?_
  refine J_reg ?_
  refine JL_op (wn0 rfl) (ow_makeI rfl rfl rfl) (fun b42 hb42 => ?_)
  refine JN rfl rfl rfl rfl rfl ?_
  refine JL_nil ?_
  refine JQ_then_n ?_
  refine J_seq ?_
  refine J_seq ?_
  refine J_reg ?_
  refine JN rfl rfl rfl rfl rfl ?_
  refine JL_nil ?_
  refine JQ_then_n ?_
  refine J_block ?_
  have hlt : i < D.length := by omega
  obtain ⟨p, hp⟩ : ∃ p, D[i]'hlt = p := ⟨_, rfl⟩
  have hpm : p ∈ D := by rw [← hp]; exact List.getElem_mem _
  have hPl : i < (D.map Dv.l).length := by rw [List.length_map]; exact hlt
  have hPi : (D.map Dv.l)[i]'hPl = p.l := by rw [List.getElem_map, hp]
  obtain ⟨⟨hd1, hd2⟩, hgm⟩ := hok.1 i hPl
  rw [hPi] at hd1 hd2
  have hgm' : ∀ k (hk : k < p.l.length), GmOk T (D.map Dv.l) i p.l k (p.l[k]'hk) := fun k hk => by
    have := hgm k (by rw [hPi]; exact hk)
    simp only [hPi] at this
    exact this
  refine J_fact (fun hf => ?_)
  have hpa : p.n = p.l.length ∧ ∃ b o, p.A = some ⟨b, o, none⟩ := by
    obtain ⟨w', hw'⟩ := hf
    obtain ⟨A', c', e, h1, -, h4⟩ := (hw'.ok (slsB 2 eP D) (by repeat (first | exact List.Mem.head _ | apply List.Mem.tail))).1 p hpm
    dsimp only [Dv.v] at e
    rw [Value.slice.injEq] at e
    obtain ⟨b, o, e2, -⟩ := h4 (List.length_pos_iff.1 hd1)
    exact ⟨e.2.1, b, o, by rw [e.1]; exact e2⟩
  obtain ⟨Ap, np, cp, d⟩ := p
  obtain ⟨e5, pb, po, e6⟩ := hpa
  dsimp only at e5 e6 hd1 hd2 hgm' hPi
  subst e5 e6
  rw [mts0 _ _ d |>.symm]
  refine J_loop (T := Nat) (fun k => k ≤ d.length) (fun k => [(0, .int .i64 (T : Nat)), (1, .int .i64 (L : Nat)), (5, .slice (some ⟨g17, 0, none⟩) D.length c17), (6, .int .i64 0), (9, .map (some b35)), (10, .int .i64 (i : Nat)), (11, .map (some b42)), (12, .int .i64 (k : Nat))]) (fun k => [metB b35 (mts (D.map Dv.l) i d k), setI b42 (pls d k), ownB 41 1 (some ⟨g17, 0, none⟩) D.length c17 (D.flatMap eD), slsB 2 eP D]) (fun k => d.length - k) 0 (Nat.zero_le _) ⟨rfl, rfl, rfl, rfl, rfl, rfl, rfl, rfl, trivial⟩ (by repeat (first | exact Pk.nil _ | (refine Pk.pick (by repeat (first | exact Rm.here _ | apply Rm.there)) ?_))) ?_
  rintro k hk
  refine J_seq ?_
  refine J_seq ?_
  refine J_reg ?_
  refine JM rfl rfl rfl rfl rfl ?_
  refine JM rfl rfl rfl rfl rfl ?_
  refine JM rfl rfl rfl rfl rfl ?_
  refine JL_val rfl (wn0 rfl) (RP.rv (rp2 rfl rfl (fun ρ hx hy w => ex_indexI (k := i) rfl hx hy rfl Try.underlying35 sz_41 (by omega)))) rfl ?_
  refine JL_val rfl (wn0 rfl) (rv_ownE (v := .slice (some ⟨pb, po, none⟩) d.length cp) (k := 1) (j := i) ED rfl rfl ag_41 (by repeat (first | exact List.Mem.head _ | apply List.Mem.tail)) (by omega) (by omega) (by rw [hp]; rfl)) rfl ?_
  refine JL_val rfl (wn0 rfl) (RP.rv (rp1 rfl (fun ρ hx w => ex_len (A := _) (c := _) rfl Try.underlying41 hx))) rfl ?_
  refine JL_val rfl (wn0 rfl) (RP.rv (rp2 rfl rfl (fun ρ hx hy w => ex_lssD rfl hx hy))) rfl ?_
  refine JL_dec (fun h49 => ?_) (fun h49 => ?_)
  ·refine JL_nil ?_
   refine JQ_then_n ?_
   refine J_yes rfl rfl ?_
   refine J_skip ?_
   refine JQ_then_n ?_
   refine J_seq ?_
   refine J_block ?_
   refine J_seq ?_
   have hkl : k < d.length := by omega
   obtain ⟨x, hx⟩ : ∃ x, d[k]'hkl = x := ⟨_, rfl⟩
   obtain ⟨⟨x1, x2, x3⟩, xm, xp1, xp2⟩ := hgm' k hkl
   rw [hx] at x1 x2 x3 xm xp1 xp2
   have hml := mts_len (D.map Dv.l) i d k
   have hpln : (pls d k).length ≤ 40 := by
     have : ∀ l : List (Int × Int), (l.flatMap fun x => [x.2, x.1]).length = 2 * l.length := fun l => by
       induction l with
       | nil => rfl
       | cons a l ih => rw [List.flatMap_cons, List.length_append, ih]; simp; omega
     unfold pls
     rw [this, List.length_reverse, List.length_take]; omega
   have hfl2 := hok.2
   have hxw : W2 x := ⟨by unfold W64; omega, by unfold W64; omega⟩
   refine J_keep (l' := [(0, _), (1, _), (5, _), (6, _), (9, _), (10, _), (11, _), (12, _)]) ⟨rfl, rfl, rfl, rfl, rfl, rfl, rfl, rfl, trivial⟩ ?_
   refine J_reg ?_
   refine JM rfl rfl rfl rfl rfl ?_
   refine JM rfl rfl rfl rfl rfl ?_
   refine JL_val rfl (wn0 rfl) (RP.rv (rp2 rfl rfl (fun ρ hx hy w => ex_indexI (k := i) rfl hx hy rfl Try.underlying35 sz_41 (by omega)))) rfl ?_
   refine JL_val rfl (wn0 rfl) (rv_ownE (v := .slice (some ⟨pb, po, none⟩) d.length cp) (k := 1) (j := i) ED rfl rfl ag_41 (by repeat (first | exact List.Mem.head _ | apply List.Mem.tail)) (by omega) (by omega) (by rw [hp]; rfl)) rfl ?_
   refine JM rfl rfl rfl rfl rfl ?_
   refine JL_val rfl (wn0 rfl) (RP.rv (rp2 rfl rfl (fun ρ hx hy w => ex_indexI (k := k) rfl hx hy rfl Try.underlying41 sz_42 (by omega)))) rfl ?_
   refine JL_val rfl (wn0 rfl) (rv_slsagg (D := D) (j := k) (cs := [.int .i64 x.1, .int .i64 x.2]) EP (⟨some ⟨pb, po, none⟩, d.length, cp, d⟩ : Dv (Int × Int)) rfl rfl ag_42 sz_42 (by repeat (first | exact List.Mem.head _ | apply List.Mem.tail)) hpm rfl hkl (by dsimp only; rw [hx]; rfl)) rfl ?_
   refine JL_op (wn0 rfl) (ow_alloc rfl rfl zv_42 rfl rfl) (fun b13 hb13 => ?_)
   refine JL_op (wn0 rfl) (ow_store (cs := [_, _]) (vs' := [_, _]) rfl rfl rfl rfl rfl sz_42 rfl (by repeat (first | exact At.here _ | apply At.there)) (by rfl) (by rfl)) (fun _ _ => ?_)
   refine JL_nil ?_
   refine JQ_then_n ?_
   refine J_seq ?_
   refine J_seq ?_
   refine J_keep (l' := [(0, _), (1, _), (5, _), (6, _), (9, _), (10, _), (11, _), (12, _), (13, _)]) ⟨rfl, rfl, rfl, rfl, rfl, rfl, rfl, rfl, rfl, trivial⟩ ?_
   refine J_reg ?_
   refine JL_val rfl (wn0 rfl) (RP.rv (rp_arrC (off' := 0) rfl rfl rfl ia_42_0 rfl)) rfl ?_
   refine JL_val rfl (wn0 rfl) (rv_cell rfl rfl ag_3 (by repeat (first | exact List.Mem.head _ | apply List.Mem.tail)) (by rfl)) rfl ?_
   refine JL_val rfl (wn0 rfl) (RP.rv (rp2 rfl rfl (fun ρ hx hy w => ex_lssD rfl hx hy))) rfl ?_
   refine JL_decF (by omega) ?_
   refine JM rfl rfl rfl rfl rfl ?_
   refine JL_val rfl (wn_g rfl rfl rfl rfl) (RP.rv (rp_arrC (off' := 1) rfl rfl rfl ia_42_1 rfl)) rfl ?_
   refine JL_val rfl (wn_g rfl rfl rfl rfl) (rv_cell rfl rfl ag_3 (by repeat (first | exact List.Mem.head _ | apply List.Mem.tail)) (by rfl)) rfl ?_
   refine JL_val rfl (wn_g rfl rfl rfl rfl) (RP.rv (rp_arrC (off' := 0) rfl rfl rfl ia_42_0 rfl)) rfl ?_
   refine JL_val rfl (wn_g rfl rfl rfl rfl) (rv_cell rfl rfl ag_3 (by repeat (first | exact List.Mem.head _ | apply List.Mem.tail)) (by rfl)) rfl ?_
   refine JL_val rfl (wn_g rfl rfl rfl rfl) (RP.rv (rp2 rfl rfl (fun ρ hx hy w => ex_leqD rfl hx hy))) rfl ?_
   refine JL_decF (by omega) ?_
   refine JL_val rfl (wn0 rfl) (RP.rv (rp_pickF rfl rfl rfl)) rfl ?_
   refine JM rfl rfl rfl rfl rfl ?_
   refine JL_val rfl (wn_g rfl rfl rfl rfl) (RP.rv (rp_arrC (off' := 1) rfl rfl rfl ia_42_1 rfl)) rfl ?_
   refine JL_val rfl (wn_g rfl rfl rfl rfl) (rv_cell rfl rfl ag_3 (by repeat (first | exact List.Mem.head _ | apply List.Mem.tail)) (by rfl)) rfl ?_
   refine JL_val rfl (wn_g rfl rfl rfl rfl) (RP.rv (rp_move rfl rfl)) rfl ?_
   refine JL_val rfl (wn_g rfl rfl rfl rfl) (RP.rv (rp2 rfl rfl (fun ρ hx hy w => ex_geqD rfl hx hy))) rfl ?_
   refine JL_decF (by omega) ?_
   refine JL_val rfl (wn0 rfl) (RP.rv (rp_pickF rfl rfl rfl)) rfl ?_
   refine JM rfl rfl rfl rfl rfl ?_
   refine JL_val rfl (wn_g rfl rfl rfl rfl) (RP.rv (rp_move rfl rfl)) rfl ?_
   refine JL_val rfl (wn_g rfl rfl rfl rfl) (rv_agg (cs := [_, _]) rfl rfl ag_42 sz_42 (by repeat (first | exact List.Mem.head _ | apply List.Mem.tail)) (by rfl)) rfl ?_
   refine JL_val rfl (wn_g rfl rfl rfl rfl) (rv_lookMet x rfl rfl rfl (by repeat (first | exact List.Mem.head _ | apply List.Mem.tail)) rfl hxw) rfl ?_
   refine JL_boolF xm ?_
   refine JL_val rfl (wn0 rfl) (RP.rv (rp_pickF rfl rfl rfl)) rfl ?_
   refine JM rfl rfl rfl rfl rfl ?_
   refine JL_val rfl (wn_g rfl rfl rfl rfl) (RP.rv (rp_move rfl rfl)) rfl ?_
   refine JL_val rfl (wn_g rfl rfl rfl rfl) (RP.rv (rp_arrC (off' := 0) rfl rfl rfl ia_42_0 rfl)) rfl ?_
   refine JL_val rfl (wn_g rfl rfl rfl rfl) (rv_cell rfl rfl ag_3 (by repeat (first | exact List.Mem.head _ | apply List.Mem.tail)) (by rfl)) rfl ?_
   refine JL_val rfl (wn_g rfl rfl rfl rfl) (rv_lookI x.1 rfl rfl rfl (by repeat (first | exact List.Mem.head _ | apply List.Mem.tail)) hxw.1) rfl ?_
   refine JL_boolF xp1 ?_
   refine JL_val rfl (wn0 rfl) (RP.rv (rp_pickF rfl rfl rfl)) rfl ?_
   refine JM rfl rfl rfl rfl rfl ?_
   refine JL_val rfl (wn_g rfl rfl rfl rfl) (RP.rv (rp_move rfl rfl)) rfl ?_
   refine JL_val rfl (wn_g rfl rfl rfl rfl) (RP.rv (rp_arrC (off' := 1) rfl rfl rfl ia_42_1 rfl)) rfl ?_
   refine JL_val rfl (wn_g rfl rfl rfl rfl) (rv_cell rfl rfl ag_3 (by repeat (first | exact List.Mem.head _ | apply List.Mem.tail)) (by rfl)) rfl ?_
   refine JL_val rfl (wn_g rfl rfl rfl rfl) (rv_lookI x.2 rfl rfl rfl (by repeat (first | exact List.Mem.head _ | apply List.Mem.tail)) hxw.2) rfl ?_
   refine JL_boolF xp2 ?_
   refine JL_val rfl (wn0 rfl) (RP.rv (rp_pickF rfl rfl rfl)) rfl ?_
   refine JL_nil ?_
   refine JQ_then_n ?_
   refine J_no rfl rfl ?_
   refine J_skip ?_
   refine JQ_then_n ?_
   refine J_keep (l' := [(0, _), (1, _), (5, _), (6, _), (9, _), (10, _), (11, _), (12, _), (13, _)]) ⟨rfl, rfl, rfl, rfl, rfl, rfl, rfl, rfl, rfl, trivial⟩ ?_
   refine J_drawX [] [1, 4, 7] [cellB b13 [.int .i64 x.1, .int .i64 x.2] 42] (by repeat (first | exact Pk.nil _ | (refine Pk.pick (by repeat (first | exact Rm.here _ | apply Rm.there)) ?_))) (by kernel_rfl) ?_
   refine JA_takeP (i := 0) rfl rfl (by kernel_rfl) (by kernel_rfl) (by kernel_rfl) rfl (wn0 rfl) (rp_move rfl rfl) rfl ?_
   refine JA_takeX (i := 1) rfl rfl (by kernel_rfl) (by kernel_rfl) (by kernel_rfl) rfl rfl (by repeat (first | exact Pk.nil _ | (refine Pk.pick (by repeat (first | exact Rm.here _ | apply Rm.there)) ?_))) (wn0 rfl) (rv_agg (cs := [_, _]) rfl rfl ag_42 sz_42 (by repeat (first | exact List.Mem.head _ | apply List.Mem.tail)) (by rfl)) rfl ?_
   refine JA_takeP (i := 2) rfl rfl (by kernel_rfl) (by kernel_rfl) (by kernel_rfl) rfl (wn0 rfl) (rp_move rfl rfl) rfl ?_
   refine JA_takeP (i := 3) rfl rfl (by kernel_rfl) (by kernel_rfl) (by kernel_rfl) rfl (wn0 rfl) (rp_arrC (off' := 0) rfl rfl rfl ia_42_0 rfl) rfl ?_
   refine JA_takeX (i := 4) rfl rfl (by kernel_rfl) (by kernel_rfl) (by kernel_rfl) rfl rfl (by repeat (first | exact Pk.nil _ | (refine Pk.pick (by repeat (first | exact Rm.here _ | apply Rm.there)) ?_))) (wn0 rfl) (rv_cell rfl rfl ag_3 (by repeat (first | exact List.Mem.head _ | apply List.Mem.tail)) (by rfl)) rfl ?_
   refine JA_takeP (i := 5) rfl rfl (by kernel_rfl) (by kernel_rfl) (by kernel_rfl) rfl (wn0 rfl) (rp_move rfl rfl) rfl ?_
   refine JA_takeP (i := 6) rfl rfl (by kernel_rfl) (by kernel_rfl) (by kernel_rfl) rfl (wn0 rfl) (rp_arrC (off' := 1) rfl rfl rfl ia_42_1 rfl) rfl ?_
   refine JA_takeX (i := 7) rfl rfl (by kernel_rfl) (by kernel_rfl) (by kernel_rfl) rfl rfl (by repeat (first | exact Pk.nil _ | (refine Pk.pick (by repeat (first | exact Rm.here _ | apply Rm.there)) ?_))) (wn0 rfl) (rv_cell rfl rfl ag_3 (by repeat (first | exact List.Mem.head _ | apply List.Mem.tail)) (by rfl)) rfl ?_
   refine JA_one (i := 8) (by kernel_rfl) rfl (wn0 rfl) (ow_putMet x rfl rfl rfl rfl rfl rfl rfl xm (by repeat (first | exact At.here _ | apply At.there)) hxw (by omega)) ⟨by kernel_rfl, .inr ⟨rfl, (by repeat (first | exact Pk.nil _ | (refine Pk.pick (by repeat (first | exact Rm.here _ | apply Rm.there)) ?_)))⟩⟩ (fun _ _ => ?_)
   refine JA_one (i := 9) (by kernel_rfl) rfl (wn0 rfl) (ow_putI x.1 rfl rfl rfl rfl rfl rfl (by repeat (first | exact At.here _ | apply At.there)) hxw.1 (by omega)) ⟨by kernel_rfl, .inr ⟨rfl, (by repeat (first | exact Pk.nil _ | (refine Pk.pick (by repeat (first | exact Rm.here _ | apply Rm.there)) ?_)))⟩⟩ (fun _ _ => ?_)
   refine JA_one (i := 10) (by kernel_rfl) rfl (wn0 rfl) (ow_putI x.2 rfl rfl rfl rfl rfl rfl (by repeat (first | exact At.here _ | apply At.there)) hxw.2 (by rw [List.length_cons]; omega)) ⟨by kernel_rfl, .inr ⟨rfl, (by repeat (first | exact Pk.nil _ | (refine Pk.pick (by repeat (first | exact Rm.here _ | apply Rm.there)) ?_)))⟩⟩ (fun _ _ => ?_)
   refine JA_done (by kernel_rfl) ?_
   refine JQ_block_n ?_
   refine JQ_then_n ?_
   refine J_keep (l' := [(0, _), (1, _), (5, _), (6, _), (9, _), (10, _), (11, _), (12, _)]) ⟨rfl, rfl, rfl, rfl, rfl, rfl, rfl, rfl, trivial⟩ ?_
   refine J_reg ?_
   refine JM rfl rfl rfl rfl rfl ?_
   refine JL_val rfl (wn0 rfl) (RP.rv (rp2 rfl rfl (fun ρ hx hy w => ex_add rfl hx hy (by omega)))) rfl ?_
   refine JN rfl rfl rfl rfl rfl ?_
   refine JL_nil ?_
   have e1 : mts (D.map Dv.l) i d (k + 1) = x :: mts (D.map Dv.l) i d k := by rw [mts_succ _ _ _ _ hkl, hx]
   have e2 : pls d (k + 1) = x.2 :: x.1 :: pls d k := by rw [pls_succ _ _ hkl, hx]
   exact JQ_round (k + 1) (by omega) (by omega) ⟨rfl, rfl, rfl, rfl, rfl, rfl, rfl, (congrArg some (by go_num)), trivial⟩ (by (try dsimp only); rw [e1, e2]; repeat (first | exact Pk.nil _ | (refine Pk.pick (by repeat (first | exact Rm.here _ | apply Rm.there)) ?_)))
  ·refine JL_nil ?_
   refine JQ_then_n ?_
   refine J_no rfl rfl ?_
   refine J_exit ?_
   refine JQ_then_x ?_
   refine JQ_then_x ?_
   refine JQ_block_y rfl ?_
   refine JQ_then_n ?_
   refine J_seq ?_
   refine J_keep (l' := [(0, _), (1, _), (5, _), (6, _), (9, _), (10, _)]) ⟨rfl, rfl, rfl, rfl, rfl, rfl, trivial⟩ ?_
   refine J_reg ?_
   refine JM rfl rfl rfl rfl rfl ?_
   refine JM rfl rfl rfl rfl rfl ?_
   refine JL_val rfl (wn0 rfl) (RP.rv (rp2 rfl rfl (fun ρ hx hy w => ex_indexI (k := i) rfl hx hy rfl Try.underlying35 sz_41 (by omega)))) rfl ?_
   refine JL_val rfl (wn0 rfl) (rv_ownE (v := .slice (some ⟨pb, po, none⟩) d.length cp) (k := 1) (j := i) ED rfl rfl ag_41 (by repeat (first | exact List.Mem.head _ | apply List.Mem.tail)) (by omega) (by omega) (by rw [hp]; rfl)) rfl ?_
   refine JL_val rfl (wn0 rfl) (RP.rv (rp1 rfl (fun ρ hx w => ex_len (A := _) (c := _) rfl Try.underlying41 hx))) rfl ?_
   refine JL_val rfl (wn0 rfl) (RP.rv (rp2 rfl rfl (fun ρ hx hy w => ex_eqlD rfl hx hy))) rfl ?_
   refine JL_decF (by omega) ?_
   refine JM rfl rfl rfl rfl rfl ?_
   refine JL_val rfl (wn_g rfl rfl rfl rfl) (RP.rv (rp_move rfl rfl)) rfl ?_
   refine JL_val rfl (wn_g rfl rfl rfl rfl) (RP.rv (rp_move rfl rfl)) rfl ?_
   refine JL_val rfl (wn_g rfl rfl rfl rfl) (RP.rv (rp2 rfl rfl (fun ρ hx hy w => ex_indexI (k := i) rfl hx hy rfl Try.underlying35 sz_41 (by omega)))) rfl ?_
   refine JL_val rfl (wn_g rfl rfl rfl rfl) (rv_ownE (v := .slice (some ⟨pb, po, none⟩) d.length cp) (k := 1) (j := i) ED rfl rfl ag_41 (by repeat (first | exact List.Mem.head _ | apply List.Mem.tail)) (by omega) (by omega) (by rw [hp]; rfl)) rfl ?_
   refine JL_val rfl (wn_g rfl rfl rfl rfl) (RP.rv (rp1 rfl (fun ρ hx w => ex_len (A := _) (c := _) rfl Try.underlying41 hx))) rfl ?_
   refine JL_val rfl (wn_g rfl rfl rfl rfl) (RP.rv (rp_move rfl rfl)) rfl ?_
   refine JL_val rfl (wn_g rfl rfl rfl rfl) (RP.rv (rp2 rfl rfl (fun ρ hx hy w => ex_gtrD rfl hx hy))) rfl ?_
   refine JL_decF (by omega) ?_
   refine JL_val rfl (wn0 rfl) (RP.rv (rp_pickF rfl rfl rfl)) rfl ?_
   refine JL_nil ?_
   refine JQ_then_n ?_
   refine J_no rfl rfl ?_
   refine J_skip ?_
   refine JQ_block_n ?_
   refine JQ_then_n ?_
   refine J_keep (l' := [(0, _), (1, _), (5, _), (6, _), (9, _), (10, _)]) ⟨rfl, rfl, rfl, rfl, rfl, rfl, trivial⟩ ?_
   refine J_reg ?_
   refine JM rfl rfl rfl rfl rfl ?_
   refine JL_val rfl (wn0 rfl) (RP.rv (rp2 rfl rfl (fun ρ hx hy w => ex_add rfl hx hy (by omega)))) rfl ?_
   refine JN rfl rfl rfl rfl rfl ?_
   refine JL_nil ?_
   obtain rfl : k = d.length := by omega
   have e1 : mts (D.map Dv.l) i d d.length = mts (D.map Dv.l) (i + 1) [] 0 := by rw [← hPi]; exact mts_next _ _ _
   exact JQ_round (i + 1) (by omega) (by omega) ⟨rfl, rfl, rfl, rfl, rfl, (congrArg some (by go_num)), trivial⟩ (by (try dsimp only); rw [← e1]; repeat (first | exact Pk.nil _ | (refine Pk.pick (by repeat (first | exact Rm.here _ | apply Rm.there)) ?_)))
 ·refine JL_nil ?_
  refine JQ_then_n ?_
  refine J_no rfl rfl ?_
  refine J_exit ?_
  refine JQ_then_x ?_
  refine JQ_then_x ?_
  refine JQ_block_y rfl ?_
  refine JQ_then_n ?_
  refine J_seq ?_
  obtain rfl : i = D.length := by omega
  have hln : (mts (D.map Dv.l) D.length [] 0).length = T * (T - 1) / 2 := by
    unfold mts
    rw [List.length_append, List.length_reverse, List.length_reverse, ← List.length_map (f := Dv.l), List.take_length, hok.2]; simp
  have hq : ((T * (T - 1) / 2 : Nat) : Int) = ((T : Nat) : Int) * (((T : Nat) : Int) - 1) / 2 := by
    rw [show ((T : Nat) : Int) - 1 = ((T - 1 : Nat) : Int) by omega]; rfl
  have hmb : 0 ≤ ((T : Nat) : Int) * (((T : Nat) : Int) - 1) ∧ ((T : Nat) : Int) * (((T : Nat) : Int) - 1) ≤ 16 * 16 := ⟨Int.mul_nonneg (by omega) (by omega), Int.mul_le_mul (by omega) (by omega) (by omega) (by omega)⟩
  refine J_keep (l' := [(0, _), (6, _), (9, _)]) ⟨rfl, rfl, rfl, trivial⟩ ?_
  refine J_reg ?_
  refine JM rfl rfl rfl rfl rfl ?_
  refine JL_val rfl (wn0 rfl) (RP.rv (rp2 rfl rfl (fun ρ hx hy w => ex_neq29 rfl hx hy))) rfl ?_
  refine JL_decF (by omega) ?_
  refine JM rfl rfl rfl rfl rfl ?_
  refine JL_val rfl (wn_g rfl rfl rfl rfl) (RP.rv (rp_move rfl rfl)) rfl ?_
  refine JL_val rfl (wn_g rfl rfl rfl rfl) (rv_lenMet rfl rfl (by repeat (first | exact List.Mem.head _ | apply List.Mem.tail))) rfl ?_
  refine JL_val rfl (wn_g rfl rfl rfl rfl) (RP.rv (rp_move rfl rfl)) rfl ?_
  refine JL_val rfl (wn_g rfl rfl rfl rfl) (RP.rv (rp_move rfl rfl)) rfl ?_
  refine JL_val rfl (wn_g rfl rfl rfl rfl) (RP.rv (rp2 rfl rfl (fun ρ hx hy w => ex_sub rfl hx hy (by omega)))) rfl ?_
  refine JL_val rfl (wn_g rfl rfl rfl rfl) (RP.rv (rp2 rfl rfl (fun ρ hx hy w => ex_mul rfl hx hy (by omega)))) rfl ?_
  refine JL_val rfl (wn_g rfl rfl rfl rfl) (RP.rv (rp2 rfl rfl (fun ρ hx hy w => ex_quo rfl hx hy (by omega) (by omega)))) rfl ?_
  refine JL_val rfl (wn_g rfl rfl rfl rfl) (RP.rv (rp2 rfl rfl (fun ρ hx hy w => ex_eqlD rfl hx hy))) rfl ?_
  refine JL_decT (by rw [hln]; exact hq) ?_
  refine JL_val rfl (wn0 rfl) (RP.rv (rp_pickF rfl rfl rfl)) rfl ?_
  refine JM rfl rfl rfl rfl rfl ?_
  refine JL_op (wn_g rfl rfl rfl rfl) (ow_callB (ec_fn rfl rfl cf_14) rfl rfl (fun w hw => awake14 w)) (fun _ _ => ?_)
  refine JL_val rfl (wn0 rfl) (RP.rv (rp_pickT rfl rfl rfl)) rfl ?_
  refine JN rfl rfl rfl rfl rfl ?_
  refine JL_nil ?_
  refine JQ_then_n ?_
  refine J_ret ?_
  refine JR_one rfl (rr_tmp rfl) ?_
  intro w' hw
  exact ⟨rfl, hw.bel⟩
theorem Draws_law (T L : Int) (w : World) : Calls Try.prog 4 #[.int .i64 T, .int .i64 L] w (Back (.bool true) w) := by
  by_cases h : (2 ≤ T ∧ T ≤ 16) ∧ (1 ≤ L ∧ L ≤ 8)
  · have := Draws_yes4 T.toNat L.toNat (by omega) (by omega) w
    rw [show ((T.toNat : Nat) : Int) = T by omega, show ((L.toNat : Nat) : Int) = L by omega] at this
    exact this
  · exact Draws_no4 T L h w
end Go.Proofs.Ytlfbbofcnonhdaa
