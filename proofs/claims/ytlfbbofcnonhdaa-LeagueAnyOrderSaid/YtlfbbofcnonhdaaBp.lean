/- awake. -/
import Derived.Test.YtlfbbofcnonhdaaBm
import Derived.Test.YtlfbbofcnonhdaaBj
namespace Go.Proofs.Ytlfbbofcnonhdaa
open Go Go.RowKit Go.Proofs

theorem aw_tblF : tblP 3 (ringL 10 20 30) = [⟨0, 1, 2, 1, 9, 9, 2, 20⟩, ⟨1, 2, 2, 1, 9, 9, 2, 40⟩, ⟨2, 3, 2, 1, 9, 9, 2, 60⟩] := by decide +kernel
theorem aw_koF : koR 4 [1, 1] = (0, 4, [((0, 0), (0, 3)), ((0, 1), (0, 2)), ((1, 0), (1, 1)), ((2, 1), (2, 2)), ((2, 0), (1, 3))], [(1, 2), (1, 4), (2, 4), (2, 3)]) := by decide +kernel
theorem aw_przE : przE 3 (ringL 10 10 30) [5, 2, 1] = 0 := by decide +kernel
def awM1 : Int → Option Int := repM pageG (fun _ => none) 3 0
def awM2 : Int → Option Int := repM pageG awM1 0 0
def awM3 : Int → Option Int := repM pageG awM2 1 0
def awM4 : Int → Option Int := repM pageG awM3 2 1
theorem aw_p3 : plcL (tmM awM3 4 pageG 4) pageR = [0, -1, -1, 3] := by decide +kernel
theorem aw_p4 : plcL (tmM awM4 4 pageG 4) pageR = [0, 2, 1, 3] := by decide +kernel
theorem aw_w2 : ∀ g ∈ pageG, W2 g.1 ∧ W2 g.2 := by intro g hg; simp [pageG] at hg; rcases hg with rfl | rfl | rfl | rfl <;> simp [W2, W64]
theorem aw_w2r : ∀ x ∈ pageR, W2 x := by intro g hg; simp [pageR] at hg; rcases hg with rfl | rfl | rfl | rfl <;> simp [W2, W64]
theorem aw_v3 : ∀ i r, awM3 i = some r → r = 0 ∨ r = 1 := repM_v (repM_v (repM_v (fun _ _ h => by cases h)))
theorem aw_v4 : ∀ i r, awM4 i = some r → r = 0 ∨ r = 1 := repM_v aw_v3
theorem ring_w6 (a b c : Int) (ha : W64 a) (hb : W64 b) (hc : W64 c) : ∀ x ∈ ringL a b c, W6 x := by
 intro x hx
 simp only [ringL, List.mem_cons, List.not_mem_nil, or_false] at hx
 unfold W64 at ha hb hc
 rcases hx with rfl | rfl | rfl <;> (unfold W6 W64; refine ⟨⟨?_, ?_⟩, ⟨?_, ?_⟩, ?_, ?_⟩ <;> dsimp only <;> omega)
set_option maxRecDepth 100000 in
set_option maxHeartbeats 4000000 in
theorem awake14 (w : World) : Calls Try.prog 14 #[] w (Back (.bool true) w) := by
 refine J_enter (fun _ => False) (vs := []) (k := 150) (l := []) Try.func14 rfl rfl Try.ntmps14 rfl rfl (Wd.start _) ?_
 refine J_seq ?_
 refine J_reg ?_
 refine JN rfl rfl rfl rfl rfl ?_
 refine JL_nil ?_
 refine JQ_then_n ?_
 refine J_seq ?_
 refine J_reg ?_
 refine JL_op (wn0 rfl) (ow_callDE (ec_fn rfl rfl cf_22) rfl rfl (fun w hw => draws22 4 2 (by decide) (by decide) w)) (fun t15 ht15 => ?_)
 refine JM rfl rfl rfl rfl rfl ?_
 refine JP (rp_run1 (f := fun u => Instr.extract u 0) (fun _ => rfl) rfl (fun _ => rfl)) ?_
 refine JP (rp_run1 (f := fun u => Instr.extract u 1) (fun _ => rfl) rfl (fun _ => rfl)) ?_
 refine JN rfl rfl rfl rfl rfl ?_
 refine JN rfl rfl rfl rfl rfl ?_
 refine JL_nil ?_
 refine JQ_then_n ?_
 refine J_seq ?_
 refine J_keep (l' := [(1, _), (2, _)]) ⟨rfl, rfl, trivial⟩ ?_
 refine J_reg ?_
 refine JL_opS (wn0 rfl) (ow_callS (ec_fn rfl rfl cf_45) rfl rfl (fun w hw => ring45 10 20 30 w)) (fun A19 c19 => ?_)
 refine JL_opS (wn0 rfl) (ow_callSE (L := ([⟨0, 1, 2, 1, 9, 9, 2, 20⟩, ⟨1, 2, 2, 1, 9, 9, 2, 40⟩, ⟨2, 3, 2, 1, 9, 9, 2, 60⟩] : List Rw)) (ec_fn rfl rfl cf_25) rfl rfl (fun w hw => by have := Table25 3 (ringL 10 20 30) _ w (Arr.of_own ER (hw.ok (ownB 56 6 A19 (ringL 10 20 30).length c19 ((ringL 10 20 30).flatMap eR)) (by repeat constructor)).1 (Nat.le_of_ble_eq_true rfl)) (ring_w6 _ _ _ (by unfold W64; omega) (by unfold W64; omega) (by unfold W64; omega)); rw [aw_chk1, aw_tblF] at this; exact this)) (fun A20 c20 => ?_)
 refine JM rfl rfl rfl rfl rfl ?_
 refine JP (rp_run1 (f := fun u => Instr.extract u 0) (fun _ => rfl) rfl (fun _ => rfl)) ?_
 refine JP (rp_run1 (f := fun u => Instr.extract u 1) (fun _ => rfl) rfl (fun _ => rfl)) ?_
 refine JN rfl rfl rfl rfl rfl ?_
 refine JN rfl rfl rfl rfl rfl ?_
 refine JL_nil ?_
 refine JQ_then_n ?_
 refine J_seq ?_
 refine J_keep (l' := [(1, _), (2, _), (3, _), (4, _)]) ⟨rfl, rfl, rfl, rfl, trivial⟩ ?_
 refine J_reg ?_
 refine JL_opS (wn0 rfl) (ow_callS (ec_fn rfl rfl cf_45) rfl rfl (fun w hw => ring45 10 10 30 w)) (fun A24 c24 => ?_)
 refine JL_op (wn0 rfl) (ow_sliceC (vs := [_, _, _]) (ty := 3) rfl rfl (by rfl) rfl rfl (fun _ => by kernel_rfl)) (fun b25 hb25 => ?_)
 refine JL_asOwn (b := b25) (ty := 3) (kk := 1) (m := 3) (by repeat constructor) rfl (by omega) ?_
 refine JL_opS (wn0 rfl) (ow_callSE (ty := 42) (k := 2) (enc := eP) (E := 0) (L := ([(7, 2), (7, 2), (1, 1)] : List (Int × Int))) (ec_fn rfl rfl cf_27) rfl rfl (fun w hw => by have := Prizes27 3 (ringL 10 10 30) [5, 2, 1] _ _ w (Arr.of_own ER (hw.ok (ownB 56 6 A24 (ringL 10 10 30).length c24 ((ringL 10 10 30).flatMap eR)) (by repeat constructor)).1 (Nat.le_of_ble_eq_true rfl)) (ring_w6 _ _ _ (by unfold W64; omega) (by unfold W64; omega) (by unfold W64; omega)) (Arr.of_own EI (hw.ok (ownB 3 1 (some ⟨b25, 0, none⟩) (([5, 2, 1] : List Int)).length 3 ((([5, 2, 1] : List Int)).flatMap eI)) (by repeat constructor)).1 (Nat.le_of_ble_eq_true rfl)); rw [aw_przE, aw_prz] at this; exact this)) (fun A26 c26 => ?_)
 refine JM rfl rfl rfl rfl rfl ?_
 refine JP (rp_run1 (f := fun u => Instr.extract u 0) (fun _ => rfl) rfl (fun _ => rfl)) ?_
 refine JP (rp_run1 (f := fun u => Instr.extract u 1) (fun _ => rfl) rfl (fun _ => rfl)) ?_
 refine JN rfl rfl rfl rfl rfl ?_
 refine JN rfl rfl rfl rfl rfl ?_
 refine JL_nil ?_
 refine JQ_then_n ?_
 refine J_seq ?_
 refine J_keep (l' := [(1, _), (2, _), (3, _), (4, _), (5, _), (6, _)]) ⟨rfl, rfl, rfl, rfl, rfl, rfl, trivial⟩ ?_
 refine J_reg ?_
 refine JL_op (wn0 rfl) (ow_sliceC (vs := [_, _]) (ty := 3) rfl rfl (by rfl) rfl rfl (fun _ => by kernel_rfl)) (fun b30 hb30 => ?_)
 refine JL_asOwn (b := b30) (ty := 3) (kk := 1) (m := 2) (by repeat constructor) rfl (by omega) ?_
 refine JL_op (wn0 rfl) (ow_callR (φ := fun _ : BrT => True) (V := fun t => .tuple #[Brv 4 t.A 5 t.c t.A2 4 t.c2, .int .i64 0]) (G := BrG ([((0, 0), (0, 3)), ((0, 1), (0, 2)), ((1, 0), (1, 1)), ((2, 1), (2, 2)), ((2, 0), (1, 3))] : List Gm) [(1, 2), (1, 4), (2, 4), (2, 3)]) (ec_fn rfl rfl cf_15) rfl rfl (fun _ => rfl) (fun w hw => by have := Knockout15 4 [1, 1] _ w (Arr.of_own EI (hw.ok (ownB 3 1 (some ⟨b30, 0, none⟩) (([1, 1] : List Int)).length 2 ((([1, 1] : List Int)).flatMap eI)) (by repeat constructor)).1 (Nat.le_of_ble_eq_true rfl)); rw [aw_koF] at this; exact this)) (fun t31 _ => ?_)
 dsimp only [BrG, List.cons_append, List.nil_append]
 refine JM rfl rfl rfl rfl rfl ?_
 refine JP (rp_run1 (f := fun u => Instr.extract u 0) (fun _ => rfl) rfl (fun _ => rfl)) ?_
 refine JP (rp_run1 (f := fun u => Instr.extract u 1) (fun _ => rfl) rfl (fun _ => rfl)) ?_
 refine JL_op (wn0 rfl) (ow_alloc rfl rfl zv_25 rfl rfl) (fun b7 hb7 => ?_)
 refine JL_op (wn0 rfl) (ow_store (cs := [_, _, _]) (vs' := [_, _, _]) rfl rfl rfl rfl rfl sz_25 rfl (by repeat constructor) (by rfl) (by rfl)) (fun _ _ => ?_)
 refine JN rfl rfl rfl rfl rfl ?_
 refine JL_nil ?_
 refine JQ_then_n ?_
 refine J_seq ?_
 refine J_seq ?_
 refine J_keep (l' := [(1, _), (2, _), (3, _), (4, _), (5, _), (6, _), (7, _), (8, _)]) ⟨rfl, rfl, rfl, rfl, rfl, rfl, rfl, rfl, trivial⟩ ?_
 refine J_reg ?_
 refine JM rfl rfl rfl rfl rfl ?_
 refine JP (rp2 rfl rfl (fun ρ hx hy w => ex_neq29 rfl hx hy)) ?_
 refine JL_decF (by decide) ?_
 refine JM rfl rfl rfl rfl rfl ?_
 refine JPg (rp_move rfl rfl) ?_
 refine JPg (rp2 rfl rfl (fun ρ hx hy w => ex_neq29 rfl hx hy)) ?_
 refine JL_decF (by decide) ?_
 refine JP (rp_pickF rfl rfl rfl) ?_
 refine JM rfl rfl rfl rfl rfl ?_
 refine JPg (rp_move rfl rfl) ?_
 refine JPg (rp1 rfl (fun ρ hx w => ex_len (A := _) (c := _) rfl Try.underlying45 hx)) ?_
 refine JPg (rp2 rfl rfl (fun ρ hx hy w => ex_neqD rfl hx hy)) ?_
 refine JL_decF (by decide) ?_
 refine JP (rp_pickF rfl rfl rfl) ?_
 refine JM rfl rfl rfl rfl rfl ?_
 refine JPg (rp_move rfl rfl) ?_
 refine JPg (rp2 rfl rfl (fun ρ hx hy w => ex_neq29 rfl hx hy)) ?_
 refine JL_decF (by decide) ?_
 refine JP (rp_pickF rfl rfl rfl) ?_
 refine JM rfl rfl rfl rfl rfl ?_
 refine JPg (rp_move rfl rfl) ?_
 refine JPg (rp2 rfl rfl (fun ρ hx hy w => ex_neq29 rfl hx hy)) ?_
 refine JL_decF (by decide) ?_
 refine JP (rp_pickF rfl rfl rfl) ?_
 refine JM rfl rfl rfl rfl rfl ?_
 refine JPg (rp_fieldC (off' := 1) rfl rfl fa_25_1 rfl) ?_
 refine JVg (rv_cell rfl rfl ag_22 (by repeat constructor) (by rfl)) ?_
 refine JPg (rp1 rfl (fun ρ hx w => ex_len (A := _) (c := _) rfl Try.underlying22 hx)) ?_
 refine JPg (rp2 rfl rfl (fun ρ hx hy w => ex_neqD rfl hx hy)) ?_
 refine JL_decF (by decide) ?_
 refine JP (rp_pickF rfl rfl rfl) ?_
 refine JM rfl rfl rfl rfl rfl ?_
 refine JPg (rp_fieldC (off' := 2) rfl rfl fa_25_2 rfl) ?_
 refine JVg (rv_cell rfl rfl ag_23 (by repeat constructor) (by rfl)) ?_
 refine JPg (rp1 rfl (fun ρ hx w => ex_len (A := _) (c := _) rfl Try.underlying23 hx)) ?_
 refine JPg (rp2 rfl rfl (fun ρ hx hy w => ex_neqD rfl hx hy)) ?_
 refine JL_decF (by decide) ?_
 refine JP (rp_pickF rfl rfl rfl) ?_
 refine JL_nil ?_
 refine JQ_then_n ?_
 refine J_no rfl rfl ?_
 refine J_skip ?_
 refine JQ_then_n ?_
 refine J_seq ?_
 refine J_keep (l' := [(1, _), (3, _), (5, _), (7, _)]) ⟨rfl, rfl, rfl, rfl, trivial⟩ ?_
 refine J_reg ?_
 refine JM rfl rfl rfl rfl rfl ?_
 refine JP (rp_buildC (fun us => [us.getD 0 undef, us.getD 1 undef]) rfl rfl (fun w => by kernel_rfl)) ?_
 refine JP (rp_buildC (fun us => [us.getD 0 undef, us.getD 1 undef]) rfl rfl (fun w => by kernel_rfl)) ?_
 refine JL_op (wn0 rfl) (ow_sliceC (vs := [_, _, _, _]) (ty := 42) rfl rfl (by rfl) rfl rfl (fun _ => by kernel_rfl)) (fun b68 hb68 => ?_)
 refine JL_asOwn (b := b68) (ty := 42) (kk := 2) (m := 2) (by repeat constructor) rfl (by omega) ?_
 refine JP (rp_buildC (fun us => [us.getD 0 undef, us.getD 1 undef]) rfl rfl (fun w => by kernel_rfl)) ?_
 refine JP (rp_buildC (fun us => [us.getD 0 undef, us.getD 1 undef]) rfl rfl (fun w => by kernel_rfl)) ?_
 refine JL_op (wn0 rfl) (ow_sliceC (vs := [_, _, _, _]) (ty := 42) rfl rfl (by rfl) rfl rfl (fun _ => by kernel_rfl)) (fun b71 hb71 => ?_)
 refine JL_asOwn (b := b71) (ty := 42) (kk := 2) (m := 2) (by repeat constructor) rfl (by omega) ?_
 refine JP (rp_buildC (fun us => [us.getD 0 undef, us.getD 1 undef]) rfl rfl (fun w => by kernel_rfl)) ?_
 refine JP (rp_buildC (fun us => [us.getD 0 undef, us.getD 1 undef]) rfl rfl (fun w => by kernel_rfl)) ?_
 refine JL_op (wn0 rfl) (ow_sliceC (vs := [_, _, _, _]) (ty := 42) rfl rfl (by rfl) rfl rfl (fun _ => by kernel_rfl)) (fun b74 hb74 => ?_)
 refine JL_asOwn (b := b74) (ty := 42) (kk := 2) (m := 2) (by repeat constructor) rfl (by omega) ?_
 refine JL_op (wn0 rfl) (ow_sliceC (vs := [_, _, _]) (ty := 41) rfl rfl (by rfl) rfl rfl (fun _ => by kernel_rfl)) (fun b75 hb75 => ?_)
 refine JL_asOwn (b := b75) (ty := 41) (kk := 1) (m := 3) (by repeat constructor) rfl (by omega) ?_
 refine JL_op (wn0 rfl) (ow_callB (ec_fn rfl rfl cf_24) rfl rfl (fun w hw => (by have := SameDraws24 t15.2.2 [⟨some ⟨b68, 0, none⟩, 2, 2, [(0, 3), (1, 2)]⟩, ⟨some ⟨b71, 0, none⟩, 2, 2, [(1, 3), (0, 2)]⟩, ⟨some ⟨b74, 0, none⟩, 2, 2, [(2, 3), (0, 1)]⟩] _ _ w (Arr.of_own ED (hw.ok (ownB 41 1 t15.1 t15.2.2.length t15.2.1 (t15.2.2.flatMap eD)) (by repeat constructor)).1 (by have := congrArg List.length ht15; rw [List.length_map, aw_draws] at this; simp only [List.length_cons, List.length_nil] at this; omega)) (Arr.of_own ED (hw.ok (ownB 41 1 (some ⟨b75, 0, none⟩) 3 3 [.slice (some ⟨b68, 0, none⟩) 2 2, .slice (some ⟨b71, 0, none⟩) 2 2, .slice (some ⟨b74, 0, none⟩) 2 2]) (by repeat constructor)).1 (Nat.le_of_ble_eq_true rfl)) (hw.ok (slsB 2 eP t15.2.2) (by repeat constructor)).1 (fun p hp => by
   rcases List.mem_cons.1 hp with rfl | hp
   ·exact (Arr.of_own EP (hw.ok (ownB 42 2 (some ⟨b68, 0, none⟩) (([(0, 3), (1, 2)] : List (Int × Int))).length 2 ((([(0, 3), (1, 2)] : List (Int × Int))).flatMap eP)) (by repeat constructor)).1 (Nat.le_of_ble_eq_true rfl))
   rcases List.mem_cons.1 hp with rfl | hp
   ·exact (Arr.of_own EP (hw.ok (ownB 42 2 (some ⟨b71, 0, none⟩) (([(1, 3), (0, 2)] : List (Int × Int))).length 2 ((([(1, 3), (0, 2)] : List (Int × Int))).flatMap eP)) (by repeat constructor)).1 (Nat.le_of_ble_eq_true rfl))
   rw [List.mem_singleton.1 hp]
   exact (Arr.of_own EP (hw.ok (ownB 42 2 (some ⟨b74, 0, none⟩) (([(2, 3), (0, 1)] : List (Int × Int))).length 2 ((([(2, 3), (0, 1)] : List (Int × Int))).flatMap eP)) (by repeat constructor)).1 (Nat.le_of_ble_eq_true rfl))); rw [ht15, aw_draws] at this; exact this))) (fun _ _ => ?_)
 refine JL_boolT (decide_eq_true rfl) ?_
 refine JN rfl rfl rfl rfl rfl ?_
 refine JL_nil ?_
 refine JQ_then_n ?_
 refine J_seq ?_
 refine J_keep (l' := [(3, _), (5, _), (7, _), (9, _)]) ⟨rfl, rfl, rfl, rfl, trivial⟩ ?_
 refine J_reg ?_
 refine JL_op (wn0 rfl) (ow_callR (ec_fn rfl rfl cf_20) rfl rfl (fun _ => rfl) (fun w hw => Page20 w)) (fun t78 _ => ?_)
 dsimp only [BrG, List.cons_append, List.nil_append]
 refine JL_op (wn0 rfl) (ow_callR (ec_fn rfl rfl cf_34) rfl rfl (fun _ => rfl) (fun w hw => New34 4 pageG pageR w t78.A t78.A2 t78.c t78.c2 (Arr.of_own EG (hw.ok (ownB 90 4 t78.A pageG.length t78.c (pageG.flatMap eG)) (by repeat constructor)).1 (by decide)) (Arr.of_own EP (hw.ok (ownB 89 2 t78.A2 pageR.length t78.c2 (pageR.flatMap eP)) (by repeat constructor)).1 (by decide)) aw_w2 aw_w2r aw_page (by decide))) (fun t79 _ => ?_)
 dsimp only [PdG, List.cons_append, List.nil_append]
 refine JM rfl rfl rfl rfl rfl ?_
 refine JP (rp_run1 (f := fun u => Instr.extract u 0) (fun _ => rfl) rfl (fun _ => rfl)) ?_
 refine JP (rp_run1 (f := fun u => Instr.extract u 1) (fun _ => rfl) rfl (fun _ => rfl)) ?_
 refine JN rfl rfl rfl rfl rfl ?_
 refine JN rfl rfl rfl rfl rfl ?_
 refine JL_nil ?_
 refine JQ_then_n ?_
 refine J_seq ?_
 refine J_seq ?_
 refine J_keep (l' := [(3, _), (5, _), (7, _), (9, _), (10, _), (11, _)]) ⟨rfl, rfl, rfl, rfl, rfl, rfl, trivial⟩ ?_
 refine J_reg ?_
 refine JM rfl rfl rfl rfl rfl ?_
 refine JP (rp2 rfl rfl (fun ρ hx hy w => ex_neq29 rfl hx hy)) ?_
 refine JL_decF (by decide) ?_
 refine JM rfl rfl rfl rfl rfl ?_
 refine JPg (rp_move rfl rfl) ?_
 refine JPg (rp2 rfl rfl (fun ρ hx hy w => ex_eqlPtr rfl hx hy)) ?_
 refine JL_boolF rfl ?_
 refine JP (rp_pickF rfl rfl rfl) ?_
 refine JL_nil ?_
 refine JQ_then_n ?_
 refine J_no rfl rfl ?_
 refine J_skip ?_
 refine JQ_then_n ?_
 refine J_seq ?_
 refine J_keep (l' := [(3, _), (5, _), (7, _), (9, _), (10, _)]) ⟨rfl, rfl, rfl, rfl, rfl, trivial⟩ ?_
 refine J_reg ?_
 refine JM rfl rfl rfl rfl rfl ?_
 refine JL_op (wn0 rfl) (ow_callM (A := resB t79.bm 0 (fun _ => none)) (T := Unit) (φ := fun _ => True) (V := fun _ => .int .i64 (repE pageG (fun _ => none) 3 0)) (C := fun _ => resB t79.bm 1 awM1) (ec_fn rfl rfl cf_36) rfl rfl rfl (fun _ => rfl) (fun _ => (by repeat constructor)) (fun w hw => by have hp := pd_of (T := 4) (G := pageG) (R := pageR) (t := t79) (k := 0) (m := (fun _ => none)) hw (by unfold PdG; repeat (first | exact Pk.nil _ | (refine Pk.pick (by repeat (first | exact Rm.here _ | apply Rm.there)) ?_))) (by decide); exact report36 4 pageG pageR (fun _ => none) 3 0 w _ _ _ _ 0 _ _ hp.1 hp.2.1 hp.2.2 (by omega) (by decide) (by unfold W64; omega) (by unfold W64; omega))) (fun _ _ => ?_)
 refine JL_nil ?_
 refine JQ_then_n ?_
 refine J_seq ?_
 refine J_reg ?_
 refine JM rfl rfl rfl rfl rfl ?_
 refine JL_op (wn0 rfl) (ow_callM (A := resB t79.bm 1 awM1) (T := Unit) (φ := fun _ => True) (V := fun _ => .int .i64 (repE pageG awM1 0 0)) (C := fun _ => resB t79.bm 2 awM2) (ec_fn rfl rfl cf_36) rfl rfl rfl (fun _ => rfl) (fun _ => (by repeat constructor)) (fun w hw => by have hp := pd_of (T := 4) (G := pageG) (R := pageR) (t := t79) (k := 1) (m := awM1) hw (by unfold PdG; repeat (first | exact Pk.nil _ | (refine Pk.pick (by repeat (first | exact Rm.here _ | apply Rm.there)) ?_))) (by decide); exact report36 4 pageG pageR awM1 0 0 w _ _ _ _ 1 _ _ hp.1 hp.2.1 hp.2.2 (by omega) (by decide) (by unfold W64; omega) (by unfold W64; omega))) (fun _ _ => ?_)
 refine JL_nil ?_
 refine JQ_then_n ?_
 refine J_seq ?_
 refine J_keep (l' := [(3, _), (5, _), (7, _), (9, _), (10, _)]) ⟨rfl, rfl, rfl, rfl, rfl, trivial⟩ ?_
 refine J_reg ?_
 refine JM rfl rfl rfl rfl rfl ?_
 refine JL_op (wn0 rfl) (ow_callM (A := resB t79.bm 2 awM2) (T := Unit) (φ := fun _ => True) (V := fun _ => .int .i64 (repE pageG awM2 1 0)) (C := fun _ => resB t79.bm 3 awM3) (ec_fn rfl rfl cf_36) rfl rfl rfl (fun _ => rfl) (fun _ => (by repeat constructor)) (fun w hw => by have hp := pd_of (T := 4) (G := pageG) (R := pageR) (t := t79) (k := 2) (m := awM2) hw (by unfold PdG; repeat (first | exact Pk.nil _ | (refine Pk.pick (by repeat (first | exact Rm.here _ | apply Rm.there)) ?_))) (by decide); exact report36 4 pageG pageR awM2 1 0 w _ _ _ _ 2 _ _ hp.1 hp.2.1 hp.2.2 (by omega) (by decide) (by unfold W64; omega) (by unfold W64; omega))) (fun _ _ => ?_)
 refine JL_nil ?_
 refine JQ_then_n ?_
 refine J_seq ?_
 refine J_reg ?_
 refine JM rfl rfl rfl rfl rfl ?_
 refine JL_opS (wn0 rfl) (ow_callS (ec_fn rfl rfl cf_38) rfl rfl (fun w hw => (by have hp := pd_of (T := 4) (G := pageG) (R := pageR) (t := t79) (k := 3) (m := awM3) hw (by unfold PdG; repeat (first | exact Pk.nil _ | (refine Pk.pick (by repeat (first | exact Rm.here _ | apply Rm.there)) ?_))) (by decide); obtain ⟨n0, c0, -, hm⟩ := hp.2.2; have := places38 4 pageG pageR awM3 w _ _ _ _ n0 c0 _ _ hp.1 hm (by decide) (by decide) (by decide) aw_w2 aw_w2r aw_v3; rw [show pageG.length = 4 from rfl, aw_p3] at this; exact this))) (fun A95 c95 => ?_)
 refine JL_op (wn0 rfl) (ow_sliceC (vs := [_, _, _, _]) (ty := 3) rfl rfl (by rfl) rfl rfl (fun _ => by kernel_rfl)) (fun b96 hb96 => ?_)
 refine JL_asOwn (b := b96) (ty := 3) (kk := 1) (m := 4) (by repeat constructor) rfl (by omega) ?_
 refine JL_op (wn0 rfl) (ow_callB (ec_fn rfl rfl cf_39) rfl rfl (fun w hw => Ints39 ([0, -1, -1, 3] : List Int) ([0, -1, -1, 3] : List Int) _ _ w (Arr.of_own EI (hw.ok (ownB 3 1 A95 (([0, -1, -1, 3] : List Int)).length c95 ((([0, -1, -1, 3] : List Int)).flatMap eI)) (by repeat constructor)).1 (Nat.le_of_ble_eq_true rfl)) (Arr.of_own EI (hw.ok (ownB 3 1 (some ⟨b96, 0, none⟩) (([0, -1, -1, 3] : List Int)).length 4 ((([0, -1, -1, 3] : List Int)).flatMap eI)) (by repeat constructor)).1 (Nat.le_of_ble_eq_true rfl)))) (fun _ _ => ?_)
 refine JL_boolT (by decide) ?_
 refine JN rfl rfl rfl rfl rfl ?_
 refine JL_nil ?_
 refine JQ_then_n ?_
 refine J_seq ?_
 refine J_keep (l' := [(3, _), (5, _), (7, _), (9, _), (10, _), (12, _)]) ⟨rfl, rfl, rfl, rfl, rfl, rfl, trivial⟩ ?_
 refine J_reg ?_
 refine JM rfl rfl rfl rfl rfl ?_
 refine JL_op (wn0 rfl) (ow_callM (A := resB t79.bm 3 awM3) (T := Unit) (φ := fun _ => True) (V := fun _ => .int .i64 (repE pageG awM3 2 1)) (C := fun _ => resB t79.bm 4 awM4) (ec_fn rfl rfl cf_36) rfl rfl rfl (fun _ => rfl) (fun _ => (by repeat constructor)) (fun w hw => by have hp := pd_of (T := 4) (G := pageG) (R := pageR) (t := t79) (k := 3) (m := awM3) hw (by unfold PdG; repeat (first | exact Pk.nil _ | (refine Pk.pick (by repeat (first | exact Rm.here _ | apply Rm.there)) ?_))) (by decide); exact report36 4 pageG pageR awM3 2 1 w _ _ _ _ 3 _ _ hp.1 hp.2.1 hp.2.2 (by omega) (by decide) (by unfold W64; omega) (by unfold W64; omega))) (fun _ _ => ?_)
 refine JL_nil ?_
 refine JQ_then_n ?_
 refine J_seq ?_
 refine J_fact (fun hf => ?_)
 obtain ⟨g20, rfl⟩ := own_some (A := A20) (ty := 58) (k := 8) (m := 3) hf (by repeat constructor) (by omega)
 simp only [List.length_cons, List.length_nil, Nat.zero_add, Nat.reduceAdd]
 refine J_reg ?_
 refine JM rfl rfl rfl rfl rfl ?_
 refine JM rfl rfl rfl rfl rfl ?_
 refine JPg (rp_move rfl rfl) ?_
 refine JPg (rp2 rfl rfl (fun ρ hx hy w => ex_indexI (k := 0) rfl hx hy rfl Try.underlying45 sz_58 (by omega))) ?_
 refine JPg (rp_fieldE (i' := 0) rfl rfl fa_58_0 rfl) ?_
 refine JVg (rv_ownE EW rfl rfl ag_3 (by repeat constructor) (Nat.le_of_ble_eq_true rfl) (by omega) rfl) ?_
 refine JPg (rp2 rfl rfl (fun ρ hx hy w => ex_eqlD rfl hx hy)) ?_
 refine JL_decT (by decide) ?_
 refine JP (rp_pickT rfl rfl rfl) ?_
 refine JM rfl rfl rfl rfl rfl ?_
 refine JPg (rp_move rfl rfl) ?_
 refine JPg (rp2 rfl rfl (fun ρ hx hy w => ex_indexI (k := 1) rfl hx hy rfl Try.underlying45 sz_58 (by omega))) ?_
 refine JPg (rp_fieldE (i' := 1) rfl rfl fa_58_1 rfl) ?_
 refine JVg (rv_ownE EW rfl rfl ag_3 (by repeat constructor) (Nat.le_of_ble_eq_true rfl) (by omega) rfl) ?_
 refine JPg (rp2 rfl rfl (fun ρ hx hy w => ex_eqlD rfl hx hy)) ?_
 refine JL_decT (by decide) ?_
 refine JP (rp_pickT rfl rfl rfl) ?_
 refine JM rfl rfl rfl rfl rfl ?_
 refine JPg (rp_move rfl rfl) ?_
 refine JPg (rp2 rfl rfl (fun ρ hx hy w => ex_indexI (k := 2) rfl hx hy rfl Try.underlying45 sz_58 (by omega))) ?_
 refine JPg (rp_fieldE (i' := 1) rfl rfl fa_58_1 rfl) ?_
 refine JVg (rv_ownE EW rfl rfl ag_3 (by repeat constructor) (Nat.le_of_ble_eq_true rfl) (by omega) rfl) ?_
 refine JPg (rp2 rfl rfl (fun ρ hx hy w => ex_eqlD rfl hx hy)) ?_
 refine JL_decT (by decide) ?_
 refine JP (rp_pickT rfl rfl rfl) ?_
 refine JM rfl rfl rfl rfl rfl ?_
 refine JPg (rp_move rfl rfl) ?_
 refine JPg (rp_buildC (fun us => [us.getD 0 undef, us.getD 1 undef]) rfl rfl (fun w => by kernel_rfl)) ?_
 refine JPg (rp_buildC (fun us => [us.getD 0 undef, us.getD 1 undef]) rfl rfl (fun w => by kernel_rfl)) ?_
 refine JPg (rp_buildC (fun us => [us.getD 0 undef, us.getD 1 undef]) rfl rfl (fun w => by kernel_rfl)) ?_
 refine JL_op (wn_g rfl rfl rfl rfl) (ow_sliceC (vs := [_, _, _, _, _, _]) (ty := 42) rfl rfl (by rfl) rfl rfl (fun _ => by kernel_rfl)) (fun b127 hb127 => ?_)
 refine JL_asOwn (b := b127) (ty := 42) (kk := 2) (m := 3) (by repeat constructor) rfl (by omega) ?_
 refine JL_op (wn_g rfl rfl rfl rfl) (ow_callB (ec_fn rfl rfl cf_32) rfl rfl (fun w hw => SamePairs32 ([(7, 2), (7, 2), (1, 1)] : List (Int × Int)) ([(7, 2), (7, 2), (1, 1)] : List (Int × Int)) _ _ w (Arr.of_own EP (hw.ok (ownB 42 2 A26 (([(7, 2), (7, 2), (1, 1)] : List (Int × Int))).length c26 ((([(7, 2), (7, 2), (1, 1)] : List (Int × Int))).flatMap eP)) (by repeat constructor)).1 (Nat.le_of_ble_eq_true rfl)) (Arr.of_own EP (hw.ok (ownB 42 2 (some ⟨b127, 0, none⟩) (([(7, 2), (7, 2), (1, 1)] : List (Int × Int))).length 3 ((([(7, 2), (7, 2), (1, 1)] : List (Int × Int))).flatMap eP)) (by repeat constructor)).1 (Nat.le_of_ble_eq_true rfl)))) (fun _ _ => ?_)
 refine JL_boolT (by decide) ?_
 refine JP (rp_pickT rfl rfl rfl) ?_
 refine JN rfl rfl rfl rfl rfl ?_
 refine JL_nil ?_
 refine JQ_then_n ?_
 refine J_seq ?_
 obtain ⟨k1, k2, k3, k4⟩ := t31
 dsimp only
 refine J_fact (fun hf => ?_)
 obtain ⟨g31, rfl⟩ := own_some (A := k1) (ty := 90) (k := 4) (m := 5) hf (by repeat constructor) (by omega)
 refine J_keep (l' := [(7, _), (10, _), (12, _), (13, _)]) ⟨rfl, rfl, rfl, rfl, trivial⟩ ?_
 refine J_reg ?_
 refine JM rfl rfl rfl rfl rfl ?_
 refine JM rfl rfl rfl rfl rfl ?_
 refine JPg (rp_fieldC (off' := 1) rfl rfl fa_25_1 rfl) ?_
 refine JVg (rv_cell rfl rfl ag_22 (by repeat constructor) (by rfl)) ?_
 refine JPg (rp2 rfl rfl (fun ρ hx hy w => ex_indexI (k := 3) rfl hx hy rfl Try.underlying22 sz_90 (by omega))) ?_
 refine JVg (rv_ownaggE (j := 3) (cs := [_, _, _, _]) EG rfl rfl ag_90 sz_90 (by repeat constructor) (Nat.le_of_ble_eq_true rfl) rfl) ?_
 refine JPg (rp_buildC (fun us => [us.getD 0 undef, us.getD 1 undef]) rfl rfl (fun w => by kernel_rfl)) ?_
 refine JPg (rp_buildC (fun us => [us.getD 0 undef, us.getD 1 undef]) rfl rfl (fun w => by kernel_rfl)) ?_
 refine JPg (rp_buildC (fun us => [us.getD 0 undef, us.getD 1 undef]) rfl rfl (fun w => by kernel_rfl)) ?_
 refine JPg (rp2 rfl rfl (fun ρ hx hy w => ex_eql90 rfl hx hy)) ?_
 refine JL_decT (by decide) ?_
 refine JP (rp_pickT rfl rfl rfl) ?_
 refine JM rfl rfl rfl rfl rfl ?_
 refine JPg (rp_move rfl rfl) ?_
 refine JP (rp_pickT rfl rfl rfl) ?_
 refine JM rfl rfl rfl rfl rfl ?_
 refine JPg (rp_move rfl rfl) ?_
 refine JL_opS (wn_g rfl rfl rfl rfl) (ow_callS (ec_fn rfl rfl cf_38) rfl rfl (fun w hw => (by have hp := pd_of (T := 4) (G := pageG) (R := pageR) (t := t79) (k := 4) (m := awM4) hw (by unfold PdG; repeat (first | exact Pk.nil _ | (refine Pk.pick (by repeat (first | exact Rm.here _ | apply Rm.there)) ?_))) (by decide); obtain ⟨n0, c0, -, hm⟩ := hp.2.2; have := places38 4 pageG pageR awM4 w _ _ _ _ n0 c0 _ _ hp.1 hm (by decide) (by decide) (by decide) aw_w2 aw_w2r aw_v4; rw [show pageG.length = 4 from rfl, aw_p4] at this; exact this))) (fun A146 c146 => ?_)
 refine JL_op (wn_g rfl rfl rfl rfl) (ow_sliceC (vs := [_, _, _, _]) (ty := 3) rfl rfl (by rfl) rfl rfl (fun _ => by kernel_rfl)) (fun b147 hb147 => ?_)
 refine JL_asOwn (b := b147) (ty := 3) (kk := 1) (m := 4) (by repeat constructor) rfl (by omega) ?_
 refine JL_op (wn_g rfl rfl rfl rfl) (ow_callB (ec_fn rfl rfl cf_39) rfl rfl (fun w hw => Ints39 ([0, 2, 1, 3] : List Int) ([0, 2, 1, 3] : List Int) _ _ w (Arr.of_own EI (hw.ok (ownB 3 1 A146 (([0, 2, 1, 3] : List Int)).length c146 ((([0, 2, 1, 3] : List Int)).flatMap eI)) (by repeat constructor)).1 (Nat.le_of_ble_eq_true rfl)) (Arr.of_own EI (hw.ok (ownB 3 1 (some ⟨b147, 0, none⟩) (([0, 2, 1, 3] : List Int)).length 4 ((([0, 2, 1, 3] : List Int)).flatMap eI)) (by repeat constructor)).1 (Nat.le_of_ble_eq_true rfl)))) (fun _ _ => ?_)
 refine JL_boolT (by decide) ?_
 refine JP (rp_pickT rfl rfl rfl) ?_
 refine JN rfl rfl rfl rfl rfl ?_
 refine JL_nil ?_
 refine JQ_then_n ?_
 refine J_ret ?_
 refine JR_one rfl (rr_tmp rfl) ?_
 intro w' hw
 exact ⟨rfl, hw.bel⟩
end Go.Proofs.Ytlfbbofcnonhdaa
