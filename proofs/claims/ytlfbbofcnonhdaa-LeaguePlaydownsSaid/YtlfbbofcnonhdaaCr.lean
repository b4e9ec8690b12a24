/- LeaguePlaydowns: the walk. -/
import Derived.Test.YtlfbbofcnonhdaaCq
import Derived.Test.YtlfbbofcnonhdaaBp
namespace Go.Proofs.Ytlfbbofcnonhdaa
open Go Go.RowKit Go.Proofs

section
open Go
variable {ρ : Operand → Value} {o : Oper} {w : World} {x y : Operand}
theorem ex_neqB {a b : Bool} {ty : TypeId} (ho : o.op = .binOp .neq 4 x y ty) (hx : ρ x = .bool a) (hy : ρ y = .bool b) : (execOp ρ o).run Try.prog w = .ok (.value (.bool (decide (a ≠ b)))) w := by
  unfold execOp
  simp only [ho, hx, hy]
  go_simp
  cases a <;> cases b <;> rfl
end
set_option maxRecDepth 100000 in
set_option maxHeartbeats 4000000 in
theorem Playdowns_law (T : Int) (A : Option Addr) (n c : Nat) (A2 : Option Addr) (n2 c2 : Nat) (Al : Option Addr) (nl cl : Nat) (w : World) (h1 : RowP 4 eG (fun g : Gm => W2 g.1 ∧ W2 g.2) w A n c) (h2 : RowP 2 eP W2 w A2 n2 c2) (h3 : RowP 2 eP W2 w Al nl cl) : Calls Try.prog 11 #[Brv T A n c A2 n2 c2, .slice Al nl cl] w (Back (.bool true) w) := by
 refine J_enter (fun _ => False) (vs := [Brv T A n c A2 n2 c2, .slice Al nl cl]) (k := 93) (l := [(0, Brv T A n c A2 n2 c2), (1, .slice Al nl cl)]) Try.func11 rfl rfl Try.ntmps11 rfl rfl (Wd.start _) ?_
 refine J_seq ?_
 refine J_reg ?_
 refine JL_op (wn0 rfl) (ow_box (vs := [_, _, _]) rfl rfl rfl rfl rfl) (fun b2 hb2 => ?_)
 refine JN rfl rfl rfl rfl rfl ?_
 refine JL_nil ?_
 refine JQ_then_n ?_
 refine J_seq ?_
 refine J_seq ?_
 refine J_reg ?_
 refine JV (rv_agg (cs := [_, _, _]) rfl rfl ag_25 sz_25 (by repeat constructor) (by rfl)) ?_
 refine JL_op (wn0 rfl) (ow_callB (ec_fn rfl rfl cf_13) rfl rfl (fun w hw => (by have := great13 T (List.replicate n ((0, 0), (0, 0))) (List.replicate n2 (0, 0)) w A A2 c c2; simp only [List.length_replicate] at this; exact this))) (fun _ _ => ?_)
 refine JL_bool (fun h14 => ?_) (fun h14 => ?_)
 ·refine JM rfl rfl rfl rfl rfl ?_
  refine JF ?_
  refine JF ?_
  refine JF ?_
  refine JP (rp_pickT rfl rfl rfl) ?_
  refine JL_nil ?_
  refine JQ_then_n ?_
  refine J_yes rfl rfl ?_
  refine J_seq ?_
  refine J_keep (l' := []) trivial ?_
  refine J_reg ?_
  refine JL_op (wn0 rfl) (ow_callB (ec_fn rfl rfl cf_14) rfl rfl (fun w hw => awake14 w)) (fun _ _ => ?_)
  refine JN rfl rfl rfl rfl rfl ?_
  refine JL_nil ?_
  refine JQ_then_n ?_
  refine J_ret ?_
  refine JQ_then_r ?_
  refine JR_one rfl (rr_tmp rfl) ?_
  intro w' hw
  exact ⟨rfl, hw.bel⟩
 ·refine JM rfl rfl rfl rfl rfl ?_
  refine JPg (rp_move rfl rfl) ?_
  refine JPg (rp1 rfl (fun ρ hx w => ex_len (A := _) (c := _) rfl Try.underlying75 hx)) ?_
  refine JPg (rp2 rfl rfl (fun ρ hx hy w => ex_gtrD rfl hx hy)) ?_
  refine JL_dec (fun h18 => ?_) (fun h18 => ?_)
  ·refine JP (rp_pickF rfl rfl rfl) ?_
   refine JL_nil ?_
   refine JQ_then_n ?_
   refine J_yes rfl rfl ?_
   refine J_seq ?_
   refine J_keep (l' := []) trivial ?_
   refine J_reg ?_
   refine JL_op (wn0 rfl) (ow_callB (ec_fn rfl rfl cf_14) rfl rfl (fun w hw => awake14 w)) (fun _ _ => ?_)
   refine JN rfl rfl rfl rfl rfl ?_
   refine JL_nil ?_
   refine JQ_then_n ?_
   refine J_ret ?_
   refine JQ_then_r ?_
   refine JR_one rfl (rr_tmp rfl) ?_
   intro w' hw
   exact ⟨rfl, hw.bel⟩
  ·refine JP (rp_pickF rfl rfl rfl) ?_
   refine JL_nil ?_
   refine JQ_then_n ?_
   refine J_no rfl rfl ?_
   refine J_skip ?_
   refine JQ_then_n ?_
   refine J_seq ?_
   have hgr : n ≤ 70 ∧ n2 ≤ 20 := by
     unfold grB at h14
     simp only [List.length_replicate, Bool.or_eq_false_iff, decide_eq_false_iff_not] at h14
     omega
   obtain ⟨G, rfl, hG, hG2⟩ := h1 (by omega)
   obtain ⟨R, rfl, hR, hR2⟩ := h2 (by omega)
   obtain ⟨tl, rfl, hl, hl2⟩ := h3 (by omega)
   obtain ⟨Ag, cg, eg, -, -, hAl⟩ := id hl
   injection eg with e1 e2 e3
   subst e1 e3
   rcases hcb : cbB T G R with _ | _
   ·refine J_keep (l' := [(1, _), (2, _)]) ⟨rfl, rfl, trivial⟩ ?_
    refine J_reg ?_
    refine JV (rv_agg (cs := [_, _, _]) rfl rfl ag_25 sz_25 (by repeat constructor) (by rfl)) ?_
    refine JL_op (wn0 rfl) (ow_callB (ec_fn rfl rfl cf_34) rfl rfl (fun w hw => New34_no T G R w A A2 c c2 (hG.up EG hw.bel) (hR.up EP hw.bel) hG2 hR2 hcb)) (fun _ _ => ?_)

    refine JM rfl rfl rfl rfl rfl ?_
    refine JP (rp_run1 (f := fun u => Instr.extract u 0) (fun _ => rfl) rfl (fun _ => rfl)) ?_
    refine JP (rp_run1 (f := fun u => Instr.extract u 1) (fun _ => rfl) rfl (fun _ => rfl)) ?_
    refine JN rfl rfl rfl rfl rfl ?_
    refine JN rfl rfl rfl rfl rfl ?_
    refine JL_nil ?_
    refine JQ_then_n ?_
    refine J_seq ?_
    refine J_keep (l' := [(1, _), (2, _), (5, _), (6, _)]) ⟨rfl, rfl, rfl, rfl, trivial⟩ ?_
    refine J_reg ?_
    refine JV (rv_agg (cs := [_, _, _]) rfl rfl ag_25 sz_25 (by repeat constructor) (by rfl)) ?_
    refine JL_op (wn0 rfl) (ow_callB (ec_fn rfl rfl cf_18) rfl rfl (fun w hw => (by have := Check18 T G R w A A2 c c2 (hG.up EG hw.bel) (hR.up EP hw.bel) (by omega) (by omega); rw [ck_cb, hcb] at this; exact this))) (fun _ _ => ?_)
    refine JN rfl rfl rfl rfl rfl ?_
    refine JL_nil ?_
    refine JQ_then_n ?_
    refine J_seq ?_
    refine J_seq ?_
    refine J_reg ?_
    refine JM rfl rfl rfl rfl rfl ?_
    refine JP (rp2 rfl rfl (fun ρ hx hy w => ex_neqPtr rfl hx hy)) ?_
    refine JL_boolF rfl ?_
    refine JM rfl rfl rfl rfl rfl ?_
    refine JP (rp2 rfl rfl (fun ρ hx hy w => ex_neqB rfl hx hy)) ?_
    refine JL_decF (fun h => h rfl) ?_
    refine JM rfl rfl rfl rfl rfl ?_
    refine JPg (rp_move rfl rfl) ?_
    refine JPg (rp2 rfl rfl (fun ρ hx hy w => ex_eql29 rfl hx hy)) ?_
    refine JL_decF (by omega) ?_
    refine JPg (rp_move rfl rfl) ?_
    refine JPg (rp2 rfl rfl (fun ρ hx hy w => ex_neqB rfl hx hy)) ?_
    refine JL_decF (fun h => h rfl) ?_
    refine JP (rp_pickF rfl rfl rfl) ?_
    refine JM rfl rfl rfl rfl rfl ?_
    refine JPg (rp_move rfl rfl) ?_
    refine JPg (rp1 rfl (fun ρ hx w => ex_not rfl hx)) ?_
    refine JPg (rp_move rfl rfl) ?_
    refine JPg (rp_move rfl rfl) ?_
    refine JPg (rp2 rfl rfl (fun ρ hx hy w => ex_neq29 rfl hx hy)) ?_
    refine JL_decF (fun h => h rfl) ?_
    refine JPg (rp_pickT rfl rfl rfl) ?_
    refine JP (rp_pickF rfl rfl rfl) ?_
    refine JL_nil ?_
    refine JQ_then_n ?_
    refine J_no rfl rfl ?_
    refine J_skip ?_
    refine JQ_then_n ?_
    refine J_seq ?_
    refine J_seq ?_
    refine J_keep (l' := [(1, _), (2, _), (5, _), (7, _)]) ⟨rfl, rfl, rfl, rfl, trivial⟩ ?_
    refine J_reg ?_
    refine JM rfl rfl rfl rfl rfl ?_
    refine JP (rp1 rfl (fun ρ hx w => ex_not rfl hx)) ?_
    refine JL_nil ?_
    refine JQ_then_n ?_
    refine J_yes rfl rfl ?_
    refine J_seq ?_
    refine J_keep (l' := []) trivial ?_
    refine J_reg ?_
    refine JL_op (wn0 rfl) (ow_callB (ec_fn rfl rfl cf_14) rfl rfl (fun w hw => awake14 w)) (fun _ _ => ?_)
    refine JN rfl rfl rfl rfl rfl ?_
    refine JL_nil ?_
    refine JQ_then_n ?_
    refine J_ret ?_
    refine JQ_then_r ?_
    refine JR_one rfl (rr_tmp rfl) ?_
    intro w' hw
    exact ⟨rfl, hw.bel⟩
   ·have hbo := (cbB_iff _ _ _).1 hcb
    have hbt := hbo.t
    have hbg := hbo.g
    have hbr := hbo.r
    obtain ⟨N, hN⟩ := Int.eq_ofNat_of_zero_le (show 0 ≤ T by omega)
    subst hN
    refine J_keep (l' := [(1, _), (2, _)]) ⟨rfl, rfl, trivial⟩ ?_
    refine J_reg ?_
    refine JV (rv_agg (cs := [_, _, _]) rfl rfl ag_25 sz_25 (by repeat constructor) (by rfl)) ?_
    refine JL_op (wn0 rfl) (ow_callR (ec_fn rfl rfl cf_34) rfl rfl (fun _ => rfl) (fun w hw => New34 (N : Nat) G R w A A2 c c2 (hG.up EG hw.bel) (hR.up EP hw.bel) hG2 hR2 hcb ⟨by omega, by omega⟩)) (fun t23 _ => ?_)
    dsimp only [PdG, List.cons_append, List.nil_append]
    refine JM rfl rfl rfl rfl rfl ?_
    refine JP (rp_run1 (f := fun u => Instr.extract u 0) (fun _ => rfl) rfl (fun _ => rfl)) ?_
    refine JP (rp_run1 (f := fun u => Instr.extract u 1) (fun _ => rfl) rfl (fun _ => rfl)) ?_
    refine JN rfl rfl rfl rfl rfl ?_
    refine JN rfl rfl rfl rfl rfl ?_
    refine JL_nil ?_
    refine JQ_then_n ?_
    refine J_seq ?_
    refine J_keep (l' := [(1, _), (2, _), (5, _), (6, _)]) ⟨rfl, rfl, rfl, rfl, trivial⟩ ?_
    refine J_reg ?_
    refine JV (rv_agg (cs := [_, _, _]) rfl rfl ag_25 sz_25 (by repeat constructor) (by rfl)) ?_
    refine JL_op (wn0 rfl) (ow_callB (ec_fn rfl rfl cf_18) rfl rfl (fun w hw => (by have := Check18 (N : Nat) G R w A A2 c c2 (hG.up EG hw.bel) (hR.up EP hw.bel) (by omega) (by omega); rw [ck_cb, hcb] at this; exact this))) (fun _ _ => ?_)
    refine JN rfl rfl rfl rfl rfl ?_
    refine JL_nil ?_
    refine JQ_then_n ?_
    refine J_seq ?_
    refine J_seq ?_
    refine J_reg ?_
    refine JM rfl rfl rfl rfl rfl ?_
    refine JP (rp2 rfl rfl (fun ρ hx hy w => ex_neqPtr rfl hx hy)) ?_
    refine JL_boolT rfl ?_
    refine JM rfl rfl rfl rfl rfl ?_
    refine JP (rp2 rfl rfl (fun ρ hx hy w => ex_neqB rfl hx hy)) ?_
    refine JL_decF (fun h => h rfl) ?_
    refine JM rfl rfl rfl rfl rfl ?_
    refine JPg (rp_move rfl rfl) ?_
    refine JPg (rp2 rfl rfl (fun ρ hx hy w => ex_eql29 rfl hx hy)) ?_
    refine JL_decT rfl ?_
    refine JPg (rp_move rfl rfl) ?_
    refine JPg (rp2 rfl rfl (fun ρ hx hy w => ex_neqB rfl hx hy)) ?_
    refine JL_decF (fun h => h rfl) ?_
    refine JP (rp_pickF rfl rfl rfl) ?_
    refine JM rfl rfl rfl rfl rfl ?_
    refine JPg (rp_move rfl rfl) ?_
    refine JPg (rp1 rfl (fun ρ hx w => ex_not rfl hx)) ?_
    refine JPg (rp_move rfl rfl) ?_
    refine JF ?_
    refine JF ?_
    refine JPg (rp_pickF rfl rfl rfl) ?_
    refine JP (rp_pickF rfl rfl rfl) ?_
    refine JL_nil ?_
    refine JQ_then_n ?_
    refine J_no rfl rfl ?_
    refine J_skip ?_
    refine JQ_then_n ?_
    refine J_seq ?_
    refine J_seq ?_
    refine J_keep (l' := [(1, _), (2, _), (5, _), (7, _)]) ⟨rfl, rfl, rfl, rfl, trivial⟩ ?_
    refine J_reg ?_
    refine JM rfl rfl rfl rfl rfl ?_
    refine JP (rp1 rfl (fun ρ hx w => ex_not rfl hx)) ?_
    refine JL_nil ?_
    refine JQ_then_n ?_
    refine J_no rfl rfl ?_
    refine J_skip ?_
    refine JQ_then_n ?_
    refine J_seq ?_
    refine J_reg ?_
    refine JV (rv_agg (cs := [_, _, _]) rfl rfl ag_25 sz_25 (by repeat constructor) (by rfl)) ?_
    refine JL_op (wn0 rfl) (ow_callR (ec_fn rfl rfl cf_41) rfl rfl (fun _ => rfl) (fun w hw => by have := New41 (N : Nat) A G.length c A2 R.length c2 w (by omega); rw [← wL_none] at this; exact this)) (fun t50 _ => ?_)
    refine JL_op (wn0 rfl) (ow_alloc rfl rfl zv_77 rfl rfl) (fun b8 hb8 => ?_)
    refine JL_op (wn0 rfl) (ow_store (cs := [_, _, _, _]) (vs' := [_, _, _, _]) rfl rfl rfl rfl rfl sz_77 rfl (by repeat constructor) (by rfl) (by rfl)) (fun _ _ => ?_)
    refine JL_nil ?_
    refine JQ_then_n ?_
    refine J_seq ?_
    refine J_seq ?_
    refine J_keep (l' := [(1, _), (5, _), (8, _)]) ⟨rfl, rfl, rfl, trivial⟩ ?_
    refine J_reg ?_
    refine JN rfl rfl rfl rfl rfl ?_
    refine JL_nil ?_
    refine JQ_then_n ?_
    refine J_block ?_
    refine J_loop (T := Nat × (Int → Option Int) × Option Addr × Nat) (fun q => q.1 ≤ tl.length ∧ ∀ j s, q.2.1 j = some s → s = 0 ∨ s = 1) (fun q => [(1, .slice Al tl.length cl), (5, .pointer (some ⟨t23.bp, 0, none⟩)), (8, .pointer (some ⟨b8, 0, none⟩)), (9, .int .i64 (q.1 : Nat))]) (fun q => [cellB t23.bp [.int .i64 (N : Nat), .slice t23.A G.length t23.c, .slice t23.A2 R.length t23.c2, .map (some t23.bm)] 86, ownB 90 4 t23.A G.length t23.c (G.flatMap eG), ownB 89 2 t23.A2 R.length t23.c2 (R.flatMap eP), resB t23.bm q.1 q.2.1, cellB b8 [.int .i64 (N : Nat), .slice A G.length c, .slice A2 R.length c2, .slice q.2.2.1 (wL G.length q.2.1).length q.2.2.2] 77, ownB 3 1 q.2.2.1 (wL G.length q.2.1).length q.2.2.2 ((wL G.length q.2.1).flatMap eI)]) (fun q => tl.length - q.1) (0, (fun _ => none), t50.1, t50.2) ⟨Nat.zero_le _, fun _ _ h => by cases h⟩ ⟨rfl, rfl, rfl, rfl, trivial⟩ (by repeat constructor) ?_
    rintro ⟨i, m, A8, c8⟩ ⟨hi, hmv⟩
    dsimp only at hi hmv ⊢
    refine J_seq ?_
    refine J_seq ?_
    refine J_reg ?_
    refine JM rfl rfl rfl rfl rfl ?_
    refine JM rfl rfl rfl rfl rfl ?_
    refine JP (rp1 rfl (fun ρ hx w => ex_len (A := _) (c := _) rfl Try.underlying75 hx)) ?_
    refine JP (rp2 rfl rfl (fun ρ hx hy w => ex_lssD rfl hx hy)) ?_
    refine JL_dec (fun h54 => ?_) (fun h54 => ?_)
    ·refine JL_nil ?_
     refine JQ_then_n ?_
     refine J_yes rfl rfl ?_
     refine J_skip ?_
     refine JQ_then_n ?_
     refine J_seq ?_
     refine J_block ?_
     refine J_seq ?_
     have hlt : i < tl.length := by omega
     obtain ⟨b, p, rfl, hh⟩ := hAl (by intro e; subst e; simp at hlt)
     obtain ⟨⟨x1, x2⟩, hx⟩ : ∃ x, tl[i]'hlt = x := ⟨_, rfl⟩
     have hxw := hl2 _ (List.getElem_mem hlt)
     rw [hx] at hxw
     obtain ⟨hxw1, hxw2⟩ := hxw
     dsimp only at hxw1 hxw2
     obtain ⟨m2, hm2⟩ : ∃ q, repM G m x1 x2 = q := ⟨_, rfl⟩
     have hmv2 : ∀ j s, m2 j = some s → s = 0 ∨ s = 1 := by rw [← hm2]; exact repM_v hmv
     rcases Classical.em (repE G m x1 x2 = 0) with hre | hre
     ·have hW2 : (wL G.length m).set x1.toNat x2 = wL G.length m2 := by
        obtain ⟨⟨k, e⟩, -⟩ := (⟨Int.eq_ofNat_of_zero_le (repE_zero hre).1.1, trivial⟩ : (∃ k : Nat, x1 = (k : Nat)) ∧ True)
        rw [← hm2]; unfold repM; rw [if_pos hre, e, Int.toNat_natCast]; exact wL_set _ _ _ _
      refine J_keep (l' := [(1, _), (5, _), (8, _), (9, _)]) ⟨rfl, rfl, rfl, rfl, trivial⟩ ?_
      refine J_draw [5, 10] (by kernel_rfl) ?_
      refine JAP (i := 0) rfl (rp_move rfl rfl) ?_
      refine JAP (i := 1) rfl (rp_move rfl rfl) ?_
      refine JAP (i := 2) rfl (rp_move rfl rfl) ?_
      refine JAP (i := 3) rfl (rp2 rfl rfl (fun ρ hx hy w => ex_indexE rfl hx hy Try.underlying75 sz_80 (by omega))) ?_
      refine JAP (i := 4) rfl (rp_fieldE (i' := 0) rfl rfl fa_80_0 rfl) ?_
      refine JAL (i := 5) rfl (rv_hold (j := i) (i := 0) rfl rfl ag_3 (fun h => h) hh hlt (by omega) (by rw [hx]; rfl)) ?_
      refine JAP (i := 6) rfl (rp_move rfl rfl) ?_
      refine JAP (i := 7) rfl (rp_move rfl rfl) ?_
      refine JAP (i := 8) rfl (rp2 rfl rfl (fun ρ hx hy w => ex_indexE rfl hx hy Try.underlying75 sz_80 (by omega))) ?_
      refine JAP (i := 9) rfl (rp_fieldE (i' := 1) rfl rfl fa_80_1 rfl) ?_
      refine JAL (i := 10) rfl (rv_hold (j := i) (i := 1) rfl rfl ag_3 (fun h => h) hh hlt (by omega) (by rw [hx]; rfl)) ?_
      refine JA_one (i := 11) (by kernel_rfl) rfl (wn0 rfl) (ow_callM (A := resB t23.bm i m) (T := Unit) (φ := fun _ => True) (V := fun _ => .int .i64 (repE G m x1 x2)) (C := fun _ => resB t23.bm (i + 1) m2) (ec_fn rfl rfl cf_36) rfl rfl rfl (fun _ => rfl) (fun _ => (by repeat constructor)) (fun w hw => by have hp := pd_of (T := (N : Nat)) (G := G) (R := R) (t := t23) (k := i) (m := m) hw (by unfold PdG; repeat (first | exact Pk.nil _ | (refine Pk.pick (by repeat (first | exact Rm.here _ | apply Rm.there)) ?_))) ⟨by omega, by omega⟩; have := report36 (N : Nat) G R m x1 x2 w _ _ _ _ i _ _ hp.1 hp.2.1 hp.2.2 (by omega) (by omega) hxw1 hxw2; rw [hm2] at this; exact this)) ⟨by kernel_rfl, .inl (by kernel_rfl)⟩ (fun _ _ => ?_)
      refine JAP (i := 12) rfl (rp_assign rfl rfl) ?_
      refine JA_done (by kernel_rfl) ?_
      refine JQ_then_n ?_
      refine J_seq ?_
      refine J_keep (l' := [(1, _), (5, _), (8, _), (9, _), (10, _)]) ⟨rfl, rfl, rfl, rfl, rfl, trivial⟩ ?_
      refine J_draw [0, 5, 10] (by kernel_rfl) ?_
      refine JAL (i := 0) rfl (rv_agg (cs := [_, _, _, _]) rfl rfl ag_77 sz_77 (by repeat constructor) (by rfl)) ?_
      refine JAP (i := 1) rfl (rp_move rfl rfl) ?_
      refine JAP (i := 2) rfl (rp_move rfl rfl) ?_
      refine JAP (i := 3) rfl (rp2 rfl rfl (fun ρ hx hy w => ex_indexE rfl hx hy Try.underlying75 sz_80 (by omega))) ?_
      refine JAP (i := 4) rfl (rp_fieldE (i' := 0) rfl rfl fa_80_0 rfl) ?_
      refine JAL (i := 5) rfl (rv_hold (j := i) (i := 0) rfl rfl ag_3 (fun h => h) hh hlt (by omega) (by rw [hx]; rfl)) ?_
      refine JAP (i := 6) rfl (rp_move rfl rfl) ?_
      refine JAP (i := 7) rfl (rp_move rfl rfl) ?_
      refine JAP (i := 8) rfl (rp2 rfl rfl (fun ρ hx hy w => ex_indexE rfl hx hy Try.underlying75 sz_80 (by omega))) ?_
      refine JAP (i := 9) rfl (rp_fieldE (i' := 1) rfl rfl fa_80_1 rfl) ?_
      refine JAL (i := 10) rfl (rv_hold (j := i) (i := 1) rfl rfl ag_3 (fun h => h) hh hlt (by omega) (by rw [hx]; rfl)) ?_
      refine JA_two (i := 11) (j := 15) (by kernel_rfl) rfl rfl (wn0 rfl) (wn0 rfl) (ow_callR (ec_fn rfl rfl cf_42) rfl rfl (fun _ => rfl) (fun w hw => by have := Report42 N G R (wL G.length m) m (wL_ok G m hmv) (by omega) x1 x2 hre w _ _ _ _ _ _ (⟨hG.up EG hw.bel, hR.up EP hw.bel, Arr.of_own EI (hw.ok (ownB 3 1 A8 (wL G.length m).length c8 ((wL G.length m).flatMap eI)) (by repeat constructor)).1 (by rw [wL_len]; omega)⟩ : QdF N G R (wL G.length m) w A A2 A8 c c2 c8); rw [hW2] at this; exact this)) (ow_alloc rfl rfl zv_77 rfl rfl) trivial trivial (fun t81 _ => ?_) (fun b11 hb11 => ?_)
      ·refine JAP (i := 12) rfl (rp_move rfl rfl) ?_
       refine JAP (i := 13) rfl (rp_run1 (f := fun u => Instr.extract u 0) (fun _ => rfl) rfl (fun _ => rfl)) ?_
       refine JAP (i := 14) rfl (rp_run1 (f := fun u => Instr.extract u 1) (fun _ => rfl) rfl (fun _ => rfl)) ?_
       refine JA_one (i := 15) (by kernel_rfl) rfl (wn0 rfl) (ow_alloc rfl rfl zv_77 rfl rfl) trivial (fun b11 hb11 => ?_)
       refine JA_one (i := 16) (by kernel_rfl) rfl (wn0 rfl) (ow_store (cs := [_, _, _, _]) (vs' := [_, _, _, _]) rfl rfl rfl rfl rfl sz_77 rfl (by repeat constructor) (by rfl) (by rfl)) ⟨by kernel_rfl, .inl (by kernel_rfl)⟩ (fun _ _ => ?_)
       refine JAP (i := 17) rfl (rp_assign rfl rfl) ?_
       refine JA_done (by kernel_rfl) ?_
       refine JQ_then_n ?_
       refine J_seq ?_
       refine J_keep (l' := [(1, _), (5, _), (8, _), (9, _), (10, _), (11, _), (12, _)]) ⟨rfl, rfl, rfl, rfl, rfl, rfl, rfl, trivial⟩ ?_
       refine J_reg ?_
       refine JV (rv_agg (cs := [_, _, _, _]) rfl rfl ag_77 sz_77 (by repeat constructor) (by rfl)) ?_
       refine JL_op (wn0 rfl) (ow_store (cs := [_, _, _, _]) (vs' := [_, _, _, _]) rfl rfl rfl rfl rfl sz_77 rfl (by repeat constructor) (by rfl) (by rfl)) (fun _ _ => ?_)
       refine JL_nil ?_
       refine JQ_then_n ?_
       refine J_seq ?_
       refine J_reg ?_
       refine JM rfl rfl rfl rfl rfl ?_
       refine JM rfl rfl rfl rfl rfl ?_
       refine JP (rp2 rfl rfl (fun ρ hx hy w => ex_neq29 rfl hx hy)) ?_
       refine JL_decF (fun h => h hre) ?_
       refine JM rfl rfl rfl rfl rfl ?_
       refine JPg (rp_move rfl rfl) ?_
       refine JVg (rv_agg (cs := [_, _, _, _]) rfl rfl ag_77 sz_77 (by repeat constructor) (by rfl)) ?_
       refine JL_op (wn_g rfl rfl rfl rfl) (ow_callB (ec_fn rfl rfl cf_43) rfl rfl (fun w hw => (by have hp := pd_of (T := (N : Nat)) (G := G) (R := R) (t := t23) (k := (i + 1)) (m := m2) hw (by unfold PdG; repeat (first | exact Pk.nil _ | (refine Pk.pick (by repeat (first | exact Rm.here _ | apply Rm.there)) ?_))) ⟨by omega, by omega⟩; exact alike43 N G R (wL G.length m2) m2 (wL_ok G m2 hmv2) hbo w _ _ _ _ (i + 1) _ _ hp.1 hp.2.2 _ _ _ _ _ _ (⟨hG.up EG hw.bel, hR.up EP hw.bel, Arr.of_own EI (hw.ok (ownB 3 1 t81.1 (wL G.length m2).length t81.2 ((wL G.length m2).flatMap eI)) (by repeat constructor)).1 (by rw [wL_len]; omega)⟩ : QdF N G R (wL G.length m2) w A A2 t81.1 c c2 t81.2)))) (fun _ _ => ?_)
       refine JPg (rp1 rfl (fun ρ hx w => ex_not rfl hx)) ?_
       refine JP (rp_pickF rfl rfl rfl) ?_
       refine JL_nil ?_
       refine JQ_then_n ?_
       refine J_no rfl rfl ?_
       refine J_skip ?_
       refine JQ_block_n ?_
       refine JQ_then_n ?_
       refine J_keep (l' := [(1, _), (5, _), (8, _), (9, _)]) ⟨rfl, rfl, rfl, rfl, trivial⟩ ?_
       refine J_reg ?_
       refine JM rfl rfl rfl rfl rfl ?_
       refine JP (rp2 rfl rfl (fun ρ hx hy w => ex_add rfl hx hy (by omega))) ?_
       refine JN rfl rfl rfl rfl rfl ?_
       refine JL_nil ?_
       exact JQ_round (i + 1, m2, t81.1, t81.2) ⟨by dsimp only; omega, hmv2⟩ (by dsimp only; omega) ⟨rfl, rfl, rfl, (congrArg some (by go_num)), trivial⟩ (by repeat constructor)
      ·refine JA_one (i := 11) (by kernel_rfl) rfl (wn0 rfl) (ow_callR (ec_fn rfl rfl cf_42) rfl rfl (fun _ => rfl) (fun w hw => by have := Report42 N G R (wL G.length m) m (wL_ok G m hmv) (by omega) x1 x2 hre w _ _ _ _ _ _ (⟨hG.up EG hw.bel, hR.up EP hw.bel, Arr.of_own EI (hw.ok (ownB 3 1 A8 (wL G.length m).length c8 ((wL G.length m).flatMap eI)) (by repeat constructor)).1 (by rw [wL_len]; omega)⟩ : QdF N G R (wL G.length m) w A A2 A8 c c2 c8); rw [hW2] at this; exact this)) trivial (fun t81 _ => ?_)
       refine JAP (i := 12) rfl (rp_move rfl rfl) ?_
       refine JAP (i := 13) rfl (rp_run1 (f := fun u => Instr.extract u 0) (fun _ => rfl) rfl (fun _ => rfl)) ?_
       refine JAP (i := 14) rfl (rp_run1 (f := fun u => Instr.extract u 1) (fun _ => rfl) rfl (fun _ => rfl)) ?_
       refine JA_one (i := 16) (by kernel_rfl) rfl (wn0 rfl) (ow_store (cs := [_, _, _, _]) (vs' := [_, _, _, _]) rfl rfl rfl rfl rfl sz_77 rfl (by repeat constructor) (by rfl) (by rfl)) ⟨by kernel_rfl, .inl (by kernel_rfl)⟩ (fun _ _ => ?_)
       refine JAP (i := 17) rfl (rp_assign rfl rfl) ?_
       refine JA_done (by kernel_rfl) ?_
       refine JQ_then_n ?_
       refine J_seq ?_
       refine J_keep (l' := [(1, _), (5, _), (8, _), (9, _), (10, _), (11, _), (12, _)]) ⟨rfl, rfl, rfl, rfl, rfl, rfl, rfl, trivial⟩ ?_
       refine J_reg ?_
       refine JV (rv_agg (cs := [_, _, _, _]) rfl rfl ag_77 sz_77 (by repeat constructor) (by rfl)) ?_
       refine JL_op (wn0 rfl) (ow_store (cs := [_, _, _, _]) (vs' := [_, _, _, _]) rfl rfl rfl rfl rfl sz_77 rfl (by repeat constructor) (by rfl) (by rfl)) (fun _ _ => ?_)
       refine JL_nil ?_
       refine JQ_then_n ?_
       refine J_seq ?_
       refine J_reg ?_
       refine JM rfl rfl rfl rfl rfl ?_
       refine JM rfl rfl rfl rfl rfl ?_
       refine JP (rp2 rfl rfl (fun ρ hx hy w => ex_neq29 rfl hx hy)) ?_
       refine JL_decF (fun h => h hre) ?_
       refine JM rfl rfl rfl rfl rfl ?_
       refine JPg (rp_move rfl rfl) ?_
       refine JVg (rv_agg (cs := [_, _, _, _]) rfl rfl ag_77 sz_77 (by repeat constructor) (by rfl)) ?_
       refine JL_op (wn_g rfl rfl rfl rfl) (ow_callB (ec_fn rfl rfl cf_43) rfl rfl (fun w hw => (by have hp := pd_of (T := (N : Nat)) (G := G) (R := R) (t := t23) (k := (i + 1)) (m := m2) hw (by unfold PdG; repeat (first | exact Pk.nil _ | (refine Pk.pick (by repeat (first | exact Rm.here _ | apply Rm.there)) ?_))) ⟨by omega, by omega⟩; exact alike43 N G R (wL G.length m2) m2 (wL_ok G m2 hmv2) hbo w _ _ _ _ (i + 1) _ _ hp.1 hp.2.2 _ _ _ _ _ _ (⟨hG.up EG hw.bel, hR.up EP hw.bel, Arr.of_own EI (hw.ok (ownB 3 1 t81.1 (wL G.length m2).length t81.2 ((wL G.length m2).flatMap eI)) (by repeat constructor)).1 (by rw [wL_len]; omega)⟩ : QdF N G R (wL G.length m2) w A A2 t81.1 c c2 t81.2)))) (fun _ _ => ?_)
       refine JPg (rp1 rfl (fun ρ hx w => ex_not rfl hx)) ?_
       refine JP (rp_pickF rfl rfl rfl) ?_
       refine JL_nil ?_
       refine JQ_then_n ?_
       refine J_no rfl rfl ?_
       refine J_skip ?_
       refine JQ_block_n ?_
       refine JQ_then_n ?_
       refine J_keep (l' := [(1, _), (5, _), (8, _), (9, _)]) ⟨rfl, rfl, rfl, rfl, trivial⟩ ?_
       refine J_reg ?_
       refine JM rfl rfl rfl rfl rfl ?_
       refine JP (rp2 rfl rfl (fun ρ hx hy w => ex_add rfl hx hy (by omega))) ?_
       refine JN rfl rfl rfl rfl rfl ?_
       refine JL_nil ?_
       exact JQ_round (i + 1, m2, t81.1, t81.2) ⟨by dsimp only; omega, hmv2⟩ (by dsimp only; omega) ⟨rfl, rfl, rfl, (congrArg some (by go_num)), trivial⟩ (by repeat constructor)
     ·obtain rfl : m = m2 := by rw [← hm2]; unfold repM; rw [if_neg hre]
      refine J_keep (l' := [(1, _), (5, _), (8, _), (9, _)]) ⟨rfl, rfl, rfl, rfl, trivial⟩ ?_
      refine J_draw [5, 10] (by kernel_rfl) ?_
      refine JAP (i := 0) rfl (rp_move rfl rfl) ?_
      refine JAP (i := 1) rfl (rp_move rfl rfl) ?_
      refine JAP (i := 2) rfl (rp_move rfl rfl) ?_
      refine JAP (i := 3) rfl (rp2 rfl rfl (fun ρ hx hy w => ex_indexE rfl hx hy Try.underlying75 sz_80 (by omega))) ?_
      refine JAP (i := 4) rfl (rp_fieldE (i' := 0) rfl rfl fa_80_0 rfl) ?_
      refine JAL (i := 5) rfl (rv_hold (j := i) (i := 0) rfl rfl ag_3 (fun h => h) hh hlt (by omega) (by rw [hx]; rfl)) ?_
      refine JAP (i := 6) rfl (rp_move rfl rfl) ?_
      refine JAP (i := 7) rfl (rp_move rfl rfl) ?_
      refine JAP (i := 8) rfl (rp2 rfl rfl (fun ρ hx hy w => ex_indexE rfl hx hy Try.underlying75 sz_80 (by omega))) ?_
      refine JAP (i := 9) rfl (rp_fieldE (i' := 1) rfl rfl fa_80_1 rfl) ?_
      refine JAL (i := 10) rfl (rv_hold (j := i) (i := 1) rfl rfl ag_3 (fun h => h) hh hlt (by omega) (by rw [hx]; rfl)) ?_
      refine JA_one (i := 11) (by kernel_rfl) rfl (wn0 rfl) (ow_callM (A := resB t23.bm i m) (T := Unit) (φ := fun _ => True) (V := fun _ => .int .i64 (repE G m x1 x2)) (C := fun _ => resB t23.bm (i + 1) m) (ec_fn rfl rfl cf_36) rfl rfl rfl (fun _ => rfl) (fun _ => (by repeat constructor)) (fun w hw => by have hp := pd_of (T := (N : Nat)) (G := G) (R := R) (t := t23) (k := i) (m := m) hw (by unfold PdG; repeat (first | exact Pk.nil _ | (refine Pk.pick (by repeat (first | exact Rm.here _ | apply Rm.there)) ?_))) ⟨by omega, by omega⟩; have := report36 (N : Nat) G R m x1 x2 w _ _ _ _ i _ _ hp.1 hp.2.1 hp.2.2 (by omega) (by omega) hxw1 hxw2; rw [hm2] at this; exact this)) ⟨by kernel_rfl, .inl (by kernel_rfl)⟩ (fun _ _ => ?_)
      refine JAP (i := 12) rfl (rp_assign rfl rfl) ?_
      refine JA_done (by kernel_rfl) ?_
      refine JQ_then_n ?_
      refine J_seq ?_
      refine J_keep (l' := [(1, _), (5, _), (8, _), (9, _), (10, _)]) ⟨rfl, rfl, rfl, rfl, rfl, trivial⟩ ?_
      refine J_draw [0, 5, 10] (by kernel_rfl) ?_
      refine JAL (i := 0) rfl (rv_agg (cs := [_, _, _, _]) rfl rfl ag_77 sz_77 (by repeat constructor) (by rfl)) ?_
      refine JAP (i := 1) rfl (rp_move rfl rfl) ?_
      refine JAP (i := 2) rfl (rp_move rfl rfl) ?_
      refine JAP (i := 3) rfl (rp2 rfl rfl (fun ρ hx hy w => ex_indexE rfl hx hy Try.underlying75 sz_80 (by omega))) ?_
      refine JAP (i := 4) rfl (rp_fieldE (i' := 0) rfl rfl fa_80_0 rfl) ?_
      refine JAL (i := 5) rfl (rv_hold (j := i) (i := 0) rfl rfl ag_3 (fun h => h) hh hlt (by omega) (by rw [hx]; rfl)) ?_
      refine JAP (i := 6) rfl (rp_move rfl rfl) ?_
      refine JAP (i := 7) rfl (rp_move rfl rfl) ?_
      refine JAP (i := 8) rfl (rp2 rfl rfl (fun ρ hx hy w => ex_indexE rfl hx hy Try.underlying75 sz_80 (by omega))) ?_
      refine JAP (i := 9) rfl (rp_fieldE (i' := 1) rfl rfl fa_80_1 rfl) ?_
      refine JAL (i := 10) rfl (rv_hold (j := i) (i := 1) rfl rfl ag_3 (fun h => h) hh hlt (by omega) (by rw [hx]; rfl)) ?_
      refine JA_two (i := 11) (j := 15) (by kernel_rfl) rfl rfl (wn0 rfl) (wn0 rfl) (ow_callB (ec_fn rfl rfl cf_42) rfl rfl (fun w hw => Report42_no N G R (wL G.length m) m (wL_ok G m hmv) (by omega) x1 x2 hre w _ _ _ _ _ _ (⟨hG.up EG hw.bel, hR.up EP hw.bel, Arr.of_own EI (hw.ok (ownB 3 1 A8 (wL G.length m).length c8 ((wL G.length m).flatMap eI)) (by repeat constructor)).1 (by rw [wL_len]; omega)⟩ : QdF N G R (wL G.length m) w A A2 A8 c c2 c8))) (ow_alloc rfl rfl zv_77 rfl rfl) trivial trivial (fun _ _ => ?_) (fun b11 hb11 => ?_)
      ·refine JAP (i := 12) rfl (rp_move rfl rfl) ?_
       refine JAP (i := 13) rfl (rp_run1 (f := fun u => Instr.extract u 0) (fun _ => rfl) rfl (fun _ => rfl)) ?_
       refine JAP (i := 14) rfl (rp_run1 (f := fun u => Instr.extract u 1) (fun _ => rfl) rfl (fun _ => rfl)) ?_
       refine JA_one (i := 15) (by kernel_rfl) rfl (wn0 rfl) (ow_alloc rfl rfl zv_77 rfl rfl) trivial (fun b11 hb11 => ?_)
       refine JA_one (i := 16) (by kernel_rfl) rfl (wn0 rfl) (ow_store (cs := [_, _, _, _]) (vs' := [_, _, _, _]) rfl rfl rfl rfl rfl sz_77 rfl (by repeat constructor) (by rfl) (by rfl)) ⟨by kernel_rfl, .inl (by kernel_rfl)⟩ (fun _ _ => ?_)
       refine JAP (i := 17) rfl (rp_assign rfl rfl) ?_
       refine JA_done (by kernel_rfl) ?_
       refine JQ_then_n ?_
       refine J_seq ?_
       refine J_keep (l' := [(1, _), (5, _), (8, _), (9, _), (10, _), (11, _), (12, _)]) ⟨rfl, rfl, rfl, rfl, rfl, rfl, rfl, trivial⟩ ?_
       refine J_reg ?_
       refine JV (rv_agg (cs := [_, _, _, _]) rfl rfl ag_77 sz_77 (by repeat constructor) (by rfl)) ?_
       refine JL_op (wn0 rfl) (ow_store (cs := [_, _, _, _]) (vs' := [_, _, _, _]) rfl rfl rfl rfl rfl sz_77 rfl (by repeat constructor) (by rfl) (by rfl)) (fun _ _ => ?_)
       refine JL_nil ?_
       refine JQ_then_n ?_
       refine J_seq ?_
       refine J_reg ?_
       refine JM rfl rfl rfl rfl rfl ?_
       refine JM rfl rfl rfl rfl rfl ?_
       refine JP (rp2 rfl rfl (fun ρ hx hy w => ex_neq29 rfl hx hy)) ?_
       refine JL_decF (fun h => h rfl) ?_
       refine JM rfl rfl rfl rfl rfl ?_
       refine JPg (rp_move rfl rfl) ?_
       refine JVg (rv_agg (cs := [_, _, _, _]) rfl rfl ag_77 sz_77 (by repeat constructor) (by rfl)) ?_
       refine JL_op (wn_g rfl rfl rfl rfl) (ow_callB (ec_fn rfl rfl cf_43) rfl rfl (fun w hw => (by have hp := pd_of (T := (N : Nat)) (G := G) (R := R) (t := t23) (k := (i + 1)) (m := m) hw (by unfold PdG; repeat (first | exact Pk.nil _ | (refine Pk.pick (by repeat (first | exact Rm.here _ | apply Rm.there)) ?_))) ⟨by omega, by omega⟩; exact alike43 N G R (wL G.length m) m (wL_ok G m hmv) hbo w _ _ _ _ (i + 1) _ _ hp.1 hp.2.2 _ _ _ _ _ _ (⟨hG.up EG hw.bel, hR.up EP hw.bel, Arr.of_own EI (hw.ok (ownB 3 1 A8 (wL G.length m).length c8 ((wL G.length m).flatMap eI)) (by repeat constructor)).1 (by rw [wL_len]; omega)⟩ : QdF N G R (wL G.length m) w A A2 A8 c c2 c8)))) (fun _ _ => ?_)
       refine JPg (rp1 rfl (fun ρ hx w => ex_not rfl hx)) ?_
       refine JP (rp_pickF rfl rfl rfl) ?_
       refine JL_nil ?_
       refine JQ_then_n ?_
       refine J_no rfl rfl ?_
       refine J_skip ?_
       refine JQ_block_n ?_
       refine JQ_then_n ?_
       refine J_keep (l' := [(1, _), (5, _), (8, _), (9, _)]) ⟨rfl, rfl, rfl, rfl, trivial⟩ ?_
       refine J_reg ?_
       refine JM rfl rfl rfl rfl rfl ?_
       refine JP (rp2 rfl rfl (fun ρ hx hy w => ex_add rfl hx hy (by omega))) ?_
       refine JN rfl rfl rfl rfl rfl ?_
       refine JL_nil ?_
       exact JQ_round (i + 1, m, A8, c8) ⟨by dsimp only; omega, hmv⟩ (by dsimp only; omega) ⟨rfl, rfl, rfl, (congrArg some (by go_num)), trivial⟩ (by repeat constructor)
      ·refine JA_one (i := 11) (by kernel_rfl) rfl (wn0 rfl) (ow_callB (ec_fn rfl rfl cf_42) rfl rfl (fun w hw => Report42_no N G R (wL G.length m) m (wL_ok G m hmv) (by omega) x1 x2 hre w _ _ _ _ _ _ (⟨hG.up EG hw.bel, hR.up EP hw.bel, Arr.of_own EI (hw.ok (ownB 3 1 A8 (wL G.length m).length c8 ((wL G.length m).flatMap eI)) (by repeat constructor)).1 (by rw [wL_len]; omega)⟩ : QdF N G R (wL G.length m) w A A2 A8 c c2 c8))) trivial (fun _ _ => ?_)
       refine JAP (i := 12) rfl (rp_move rfl rfl) ?_
       refine JAP (i := 13) rfl (rp_run1 (f := fun u => Instr.extract u 0) (fun _ => rfl) rfl (fun _ => rfl)) ?_
       refine JAP (i := 14) rfl (rp_run1 (f := fun u => Instr.extract u 1) (fun _ => rfl) rfl (fun _ => rfl)) ?_
       refine JA_one (i := 16) (by kernel_rfl) rfl (wn0 rfl) (ow_store (cs := [_, _, _, _]) (vs' := [_, _, _, _]) rfl rfl rfl rfl rfl sz_77 rfl (by repeat constructor) (by rfl) (by rfl)) ⟨by kernel_rfl, .inl (by kernel_rfl)⟩ (fun _ _ => ?_)
       refine JAP (i := 17) rfl (rp_assign rfl rfl) ?_
       refine JA_done (by kernel_rfl) ?_
       refine JQ_then_n ?_
       refine J_seq ?_
       refine J_keep (l' := [(1, _), (5, _), (8, _), (9, _), (10, _), (11, _), (12, _)]) ⟨rfl, rfl, rfl, rfl, rfl, rfl, rfl, trivial⟩ ?_
       refine J_reg ?_
       refine JV (rv_agg (cs := [_, _, _, _]) rfl rfl ag_77 sz_77 (by repeat constructor) (by rfl)) ?_
       refine JL_op (wn0 rfl) (ow_store (cs := [_, _, _, _]) (vs' := [_, _, _, _]) rfl rfl rfl rfl rfl sz_77 rfl (by repeat constructor) (by rfl) (by rfl)) (fun _ _ => ?_)
       refine JL_nil ?_
       refine JQ_then_n ?_
       refine J_seq ?_
       refine J_reg ?_
       refine JM rfl rfl rfl rfl rfl ?_
       refine JM rfl rfl rfl rfl rfl ?_
       refine JP (rp2 rfl rfl (fun ρ hx hy w => ex_neq29 rfl hx hy)) ?_
       refine JL_decF (fun h => h rfl) ?_
       refine JM rfl rfl rfl rfl rfl ?_
       refine JPg (rp_move rfl rfl) ?_
       refine JVg (rv_agg (cs := [_, _, _, _]) rfl rfl ag_77 sz_77 (by repeat constructor) (by rfl)) ?_
       refine JL_op (wn_g rfl rfl rfl rfl) (ow_callB (ec_fn rfl rfl cf_43) rfl rfl (fun w hw => (by have hp := pd_of (T := (N : Nat)) (G := G) (R := R) (t := t23) (k := (i + 1)) (m := m) hw (by unfold PdG; repeat (first | exact Pk.nil _ | (refine Pk.pick (by repeat (first | exact Rm.here _ | apply Rm.there)) ?_))) ⟨by omega, by omega⟩; exact alike43 N G R (wL G.length m) m (wL_ok G m hmv) hbo w _ _ _ _ (i + 1) _ _ hp.1 hp.2.2 _ _ _ _ _ _ (⟨hG.up EG hw.bel, hR.up EP hw.bel, Arr.of_own EI (hw.ok (ownB 3 1 A8 (wL G.length m).length c8 ((wL G.length m).flatMap eI)) (by repeat constructor)).1 (by rw [wL_len]; omega)⟩ : QdF N G R (wL G.length m) w A A2 A8 c c2 c8)))) (fun _ _ => ?_)
       refine JPg (rp1 rfl (fun ρ hx w => ex_not rfl hx)) ?_
       refine JP (rp_pickF rfl rfl rfl) ?_
       refine JL_nil ?_
       refine JQ_then_n ?_
       refine J_no rfl rfl ?_
       refine J_skip ?_
       refine JQ_block_n ?_
       refine JQ_then_n ?_
       refine J_keep (l' := [(1, _), (5, _), (8, _), (9, _)]) ⟨rfl, rfl, rfl, rfl, trivial⟩ ?_
       refine J_reg ?_
       refine JM rfl rfl rfl rfl rfl ?_
       refine JP (rp2 rfl rfl (fun ρ hx hy w => ex_add rfl hx hy (by omega))) ?_
       refine JN rfl rfl rfl rfl rfl ?_
       refine JL_nil ?_
       exact JQ_round (i + 1, m, A8, c8) ⟨by dsimp only; omega, hmv⟩ (by dsimp only; omega) ⟨rfl, rfl, rfl, (congrArg some (by go_num)), trivial⟩ (by repeat constructor)
    ·refine JL_nil ?_
     refine JQ_then_n ?_
     refine J_no rfl rfl ?_
     refine J_exit ?_
     refine JQ_then_x ?_
     refine JQ_then_x ?_
     refine JQ_block_y rfl ?_
     refine JQ_then_n ?_
     refine J_seq ?_
     refine J_keep (l' := []) trivial ?_
     refine J_reg ?_
     refine JL_op (wn0 rfl) (ow_callB (ec_fn rfl rfl cf_14) rfl rfl (fun w hw => awake14 w)) (fun _ _ => ?_)
     refine JN rfl rfl rfl rfl rfl ?_
     refine JL_nil ?_
     refine JQ_then_n ?_
     refine J_ret ?_
     refine JR_one rfl (rr_tmp rfl) ?_
     intro w' hw
     exact ⟨rfl, hw.bel⟩
end Go.Proofs.Ytlfbbofcnonhdaa
