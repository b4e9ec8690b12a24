/- LeagueBrackets: the walk. -/
import Derived.Test.YtlfbbofcnonhdaaCc
import Derived.Test.YtlfbbofcnonhdaaPl
namespace Go.Proofs.Ytlfbbofcnonhdaa
open Go Go.RowKit Go.Proofs

section
open Go
variable {ρ : Operand → Value} {o : Oper} {w : World} {x y : Operand}
theorem ex_neqB {a b : Bool} {ty : TypeId} (ho : o.op = .binOp .neq 4 x y ty) (hx : ρ x = .bool a) (hy : ρ y = .bool b) : (execOp ρ o).run Try.prog w = .ok (.value (.bool (decide (a ≠ b)))) w := by
  unfold execOp
  simp only [ho, hx, hy]
  go_simp
  cases a <;> cases b <;> rfl
end
theorem rng_w {T n : Int} {x : Int × Int} (h : rng T x n) (hT : T ≤ 1000) (hn : n ≤ 1000) : W2 x := by
  unfold rng at h
  split at h <;> exact ⟨by unfold W64; omega, by unfold W64; omega⟩
theorem BrOk.w {T : Int} {G : List Gm} {R : List (Int × Int)} (h : BrOk T G R) : (∀ g ∈ G, W2 g.1 ∧ W2 g.2) ∧ ∀ x ∈ R, W2 x := by
  have h1 := h.t
  have h2 := h.g
  refine ⟨fun g hg => ?_, fun x hx => rng_w (h.pl x hx) (by omega) (by omega)⟩
  obtain ⟨i, hi, rfl⟩ := List.mem_iff_getElem.1 hg
  exact ⟨rng_w (h.gm i hi).1 (by omega) (by omega), rng_w (h.gm i hi).2 (by omega) (by omega)⟩
theorem ko_len (T : Int) (tk : List Int) : (koR T tk).2.2.1.length ≤ 64 ∧ (koR T tk).2.2.2.length ≤ 16 := by
  by_cases h : (koR T tk).1 = 0
  · have h1 := ko_ok h
    have h2 := h1.g
    have h3 := h1.r
    have h4 := h1.t
    omega
  · unfold koR at h ⊢
    split at h
    · rename_i hn; rw [if_pos hn]; exact ⟨Nat.zero_le _, Nat.zero_le _⟩
    · rename_i hn
      rw [if_neg hn]
      cases hk : koF tk ([], seedL T.toNat, []) with
      | none => exact ⟨Nat.zero_le _, Nat.zero_le _⟩
      | some s =>
        rw [hk] at h
        dsimp only at h ⊢
        split at h
        · exact absurd rfl h
        · rename_i hg; rw [if_neg hg]; exact ⟨Nat.zero_le _, Nat.zero_le _⟩
set_option maxRecDepth 100000 in
set_option maxHeartbeats 4000000 in
theorem Brackets_law (T : Int) (A : Option Addr) (n c : Nat) (A2 : Option Addr) (n2 c2 : Nat) (T2 : Int) (A3 : Option Addr) (n3 c3 : Nat) (w : World) (h1 : RowP 4 eG (fun g : Gm => W2 g.1 ∧ W2 g.2) w A n c) (h2 : RowP 2 eP W2 w A2 n2 c2) (h3 : RowP 1 eI W64 w A3 n3 c3) : Calls Try.prog 3 #[Brv T A n c A2 n2 c2, .int .i64 T2, .slice A3 n3 c3] w (Back (.bool true) w) := by
 refine J_enter (fun _ => False) (vs := [Brv T A n c A2 n2 c2, .int .i64 T2, .slice A3 n3 c3]) (k := 63) (l := [(0, Brv T A n c A2 n2 c2), (1, .int .i64 T2), (2, .slice A3 n3 c3)]) Try.func3 rfl rfl Try.ntmps3 rfl rfl (Wd.start _) ?_
 refine J_seq ?_
 refine J_reg ?_
 refine JL_op (wn0 rfl) (ow_box (vs := [_, _, _]) rfl rfl rfl rfl rfl) (fun b3 hb3 => ?_)
 refine JN rfl rfl rfl rfl rfl ?_
 refine JL_nil ?_
 refine JQ_then_n ?_
 refine J_seq ?_
 refine J_seq ?_
 refine J_reg ?_
 refine JL_val rfl (wn0 rfl) (rv_agg (cs := [_, _, _]) rfl rfl ag_25 sz_25 (by repeat (first | exact List.Mem.head _ | apply List.Mem.tail)) (by rfl)) rfl ?_
 refine JL_op (wn0 rfl) (ow_callB (ec_fn rfl rfl cf_13) rfl rfl (fun w hw => (by have := great13 T (List.replicate n ((0, 0), (0, 0))) (List.replicate n2 (0, 0)) w A A2 c c2; simp only [List.length_replicate] at this; exact this))) (fun _ _ => ?_)
 refine JL_bool (fun h12 => ?_) (fun h12 => ?_)
 ·refine JM rfl rfl rfl rfl rfl ?_
  refine JL_off rfl (wn_g rfl rfl rfl rfl) rfl ?_
  refine JL_off rfl (wn_g rfl rfl rfl rfl) rfl ?_
  refine JL_off rfl (wn_g rfl rfl rfl rfl) rfl ?_
  refine JL_val rfl (wn0 rfl) (RP.rv (rp_pickT rfl rfl rfl)) rfl ?_
  refine JL_nil ?_
  refine JQ_then_n ?_
  refine J_yes rfl rfl ?_
  refine J_seq ?_
  refine J_keep (l' := []) trivial ?_
  refine J_reg ?_
  refine JL_op (wn0 rfl) (ow_callB (ec_fn rfl rfl cf_14) rfl rfl (fun w hw => awake14 w)) (fun _ _ => ?_)
  refine JN rfl rfl rfl rfl rfl ?_
  refine JL_nil ?_
  refine JQ_then_n ?_
  refine J_ret ?_
  refine JQ_then_r ?_
  refine JR_one rfl (rr_tmp rfl) ?_
  intro w' hw
  exact ⟨rfl, hw.bel⟩
 ·refine JM rfl rfl rfl rfl rfl ?_
  refine JL_val rfl (wn_g rfl rfl rfl rfl) (RP.rv (rp_move rfl rfl)) rfl ?_
  refine JL_val rfl (wn_g rfl rfl rfl rfl) (RP.rv (rp1 rfl (fun ρ hx w => ex_len (A := _) (c := _) rfl Try.underlying26 hx))) rfl ?_
  refine JL_val rfl (wn_g rfl rfl rfl rfl) (RP.rv (rp2 rfl rfl (fun ρ hx hy w => ex_gtrD rfl hx hy))) rfl ?_
  refine JL_dec (fun h16 => ?_) (fun h16 => ?_)
  ·refine JL_val rfl (wn0 rfl) (RP.rv (rp_pickF rfl rfl rfl)) rfl ?_
   refine JL_nil ?_
   refine JQ_then_n ?_
   refine J_yes rfl rfl ?_
   refine J_seq ?_
   refine J_keep (l' := []) trivial ?_
   refine J_reg ?_
   refine JL_op (wn0 rfl) (ow_callB (ec_fn rfl rfl cf_14) rfl rfl (fun w hw => awake14 w)) (fun _ _ => ?_)
   refine JN rfl rfl rfl rfl rfl ?_
   refine JL_nil ?_
   refine JQ_then_n ?_
   refine J_ret ?_
   refine JQ_then_r ?_
   refine JR_one rfl (rr_tmp rfl) ?_
   intro w' hw
   exact ⟨rfl, hw.bel⟩
  ·refine JL_val rfl (wn0 rfl) (RP.rv (rp_pickF rfl rfl rfl)) rfl ?_
   refine JL_nil ?_
   refine JQ_then_n ?_
   refine J_no rfl rfl ?_
   refine J_skip ?_
   refine JQ_then_n ?_
   refine J_seq ?_
   have hgr : n ≤ 70 ∧ n2 ≤ 20 := by
     unfold grB at h12
     simp only [List.length_replicate, Bool.or_eq_false_iff, decide_eq_false_iff_not] at h12
     omega
   obtain ⟨G, rfl, hG, hG2⟩ := h1 (by omega)
   obtain ⟨R, rfl, hR, hR2⟩ := h2 (by omega)
   obtain ⟨tk, rfl, hq, -⟩ := h3 (by omega)
   obtain ⟨⟨ke, kt, kg, kr⟩, hk⟩ : ∃ q, koR T2 tk = q := ⟨_, rfl⟩
   have hkl := ko_len T2 tk
   have hko := ko_ok (T := T2) (tk := tk)
   rw [hk] at hkl hko
   dsimp only at hkl hko
   refine J_keep (l' := [(1, _), (2, _), (3, _)]) ⟨rfl, rfl, rfl, trivial⟩ ?_
   refine J_reg ?_
   refine JM rfl rfl rfl rfl rfl ?_
   refine JM rfl rfl rfl rfl rfl ?_
   refine JL_op (wn0 rfl) (ow_callR (φ := fun _ : BrT => True) (V := fun t => .tuple #[Brv kt t.A kg.length t.c t.A2 kr.length t.c2, .int .i64 ke]) (G := BrG kg kr) (ec_fn rfl rfl cf_15) rfl rfl (fun _ => rfl) (fun w hw => by have := Knockout15 T2 tk _ w (hq.up EI hw.bel); rw [hk] at this; exact this)) (fun t22 _ => ?_)
   try dsimp only [BrG, List.cons_append, List.nil_append]
   refine JM rfl rfl rfl rfl rfl ?_
   refine JL_val rfl (wn0 rfl) (RP.rv (rp_run1 (f := fun u => Instr.extract u 0) (fun _ => rfl) rfl (fun _ => rfl))) rfl ?_
   refine JL_val rfl (wn0 rfl) (RP.rv (rp_run1 (f := fun u => Instr.extract u 1) (fun _ => rfl) rfl (fun _ => rfl))) rfl ?_
   refine JL_op (wn0 rfl) (ow_alloc rfl rfl zv_25 rfl rfl) (fun b7 hb7 => ?_)
   refine JL_op (wn0 rfl) (ow_store (cs := [_, _, _]) (vs' := [_, _, _]) rfl rfl rfl rfl rfl sz_25 rfl (by repeat (first | exact At.here _ | apply At.there)) (by rfl) (by rfl)) (fun _ _ => ?_)
   refine JN rfl rfl rfl rfl rfl ?_
   refine JL_nil ?_
   refine JQ_then_n ?_
   refine J_seq ?_
   refine J_keep (l' := [(1, _), (2, _), (3, _), (7, _), (8, _)]) ⟨rfl, rfl, rfl, rfl, rfl, trivial⟩ ?_
   refine J_reg ?_
   refine JM rfl rfl rfl rfl rfl ?_
   refine JM rfl rfl rfl rfl rfl ?_
   refine JL_op (wn0 rfl) (ow_callR (φ := fun _ : BrT => True) (V := fun t => .tuple #[Brv kt t.A kg.length t.c t.A2 kr.length t.c2, .int .i64 ke]) (G := BrG kg kr) (ec_fn rfl rfl cf_16) rfl rfl (fun _ => rfl) (fun w hw => by have := Knockout16 T2 tk _ w (hq.up EI hw.bel); rw [hk] at this; exact this)) (fun t28 _ => ?_)
   try dsimp only [BrG, List.cons_append, List.nil_append]
   refine JM rfl rfl rfl rfl rfl ?_
   refine JL_val rfl (wn0 rfl) (RP.rv (rp_run1 (f := fun u => Instr.extract u 0) (fun _ => rfl) rfl (fun _ => rfl))) rfl ?_
   refine JL_val rfl (wn0 rfl) (RP.rv (rp_run1 (f := fun u => Instr.extract u 1) (fun _ => rfl) rfl (fun _ => rfl))) rfl ?_
   refine JL_op (wn0 rfl) (ow_alloc rfl rfl zv_25 rfl rfl) (fun b9 hb9 => ?_)
   refine JL_op (wn0 rfl) (ow_store (cs := [_, _, _]) (vs' := [_, _, _]) rfl rfl rfl rfl rfl sz_25 rfl (by repeat (first | exact At.here _ | apply At.there)) (by rfl) (by rfl)) (fun _ _ => ?_)
   refine JN rfl rfl rfl rfl rfl ?_
   refine JL_nil ?_
   refine JQ_then_n ?_
   refine J_seq ?_
   refine J_seq ?_
   refine J_keep (l' := [(3, _), (7, _), (8, _), (9, _), (10, _)]) ⟨rfl, rfl, rfl, rfl, rfl, trivial⟩ ?_
   refine J_draw [0, 2, 6, 7] (by kernel_rfl) ?_
   refine JA_takeL (i := 0) rfl rfl (by kernel_rfl) (by kernel_rfl) (by kernel_rfl) rfl rfl (by repeat (first | exact Pk.nil _ | (refine Pk.pick (by repeat (first | exact Rm.here _ | apply Rm.there)) ?_))) (wn0 rfl) (rv_agg (cs := [_, _, _]) rfl rfl ag_25 sz_25 (by repeat (first | exact List.Mem.head _ | apply List.Mem.tail)) (by rfl)) rfl ?_
   refine JA_takeL (i := 2) rfl rfl (by kernel_rfl) (by kernel_rfl) (by kernel_rfl) rfl rfl (by repeat (first | exact Pk.nil _ | (refine Pk.pick (by repeat (first | exact Rm.here _ | apply Rm.there)) ?_))) (wn0 rfl) (rv_agg (cs := [_, _, _]) rfl rfl ag_25 sz_25 (by repeat (first | exact List.Mem.head _ | apply List.Mem.tail)) (by rfl)) rfl ?_
   refine JA_one (i := 1) (by kernel_rfl) rfl (wn0 rfl) (ow_callB (ec_fn rfl rfl cf_17) rfl rfl (fun w hw => Check17 T G R w A A2 c c2 (hG.up EG hw.bel) (hR.up EP hw.bel) hG2 hR2)) trivial (fun _ _ => ?_)
   refine JA_one (i := 3) (by kernel_rfl) rfl (wn0 rfl) (ow_callB (ec_fn rfl rfl cf_18) rfl rfl (fun w hw => (by have := Check18 T G R w A A2 c c2 (hG.up EG hw.bel) (hR.up EP hw.bel) (by omega) (by omega); rw [ck_cb] at this; exact this))) trivial (fun _ _ => ?_)
   refine JA_takeP (i := 4) rfl rfl (by kernel_rfl) (by kernel_rfl) (by kernel_rfl) rfl (wn0 rfl) (rp2 rfl rfl (fun ρ hx hy w => ex_neqB rfl hx hy)) rfl ?_
   refine JA_decF (fun h => h rfl) ?_
   refine JA_takeP (i := 5) rfl rfl (by kernel_rfl) (by kernel_rfl) (by kernel_rfl) rfl (wn0 rfl) (rp_move rfl rfl) rfl ?_
   refine JA_takeL (i := 6) rfl rfl (by kernel_rfl) (by kernel_rfl) (by kernel_rfl) rfl rfl (by repeat (first | exact Pk.nil _ | (refine Pk.pick (by repeat (first | exact Rm.here _ | apply Rm.there)) ?_))) (wn_g rfl rfl rfl rfl) (rv_agg (cs := [_, _, _]) rfl rfl ag_25 sz_25 (by repeat (first | exact List.Mem.head _ | apply List.Mem.tail)) (by rfl)) rfl ?_
   refine JA_takeL (i := 7) rfl rfl (by kernel_rfl) (by kernel_rfl) (by kernel_rfl) rfl rfl (by repeat (first | exact Pk.nil _ | (refine Pk.pick (by repeat (first | exact Rm.here _ | apply Rm.there)) ?_))) (wn_g rfl rfl rfl rfl) (rv_agg (cs := [_, _, _]) rfl rfl ag_25 sz_25 (by repeat (first | exact List.Mem.head _ | apply List.Mem.tail)) (by rfl)) rfl ?_
   refine JA_one (i := 8) (by kernel_rfl) rfl (wn_g rfl rfl rfl rfl) (ow_callB (ec_fn rfl rfl cf_19) rfl rfl (fun w hw => Same19 kt kg kr w _ _ _ _ (Arr.of_own EG (hw.ok (ownB 90 4 t22.A kg.length t22.c (kg.flatMap eG)) (by repeat (first | exact List.Mem.head _ | apply List.Mem.tail))).1 (by omega)) (Arr.of_own EP (hw.ok (ownB 89 2 t22.A2 kr.length t22.c2 (kr.flatMap eP)) (by repeat (first | exact List.Mem.head _ | apply List.Mem.tail))).1 (by omega)) kt kg kr _ _ _ _ (Arr.of_own EG (hw.ok (ownB 90 4 t28.A kg.length t28.c (kg.flatMap eG)) (by repeat (first | exact List.Mem.head _ | apply List.Mem.tail))).1 (by omega)) (Arr.of_own EP (hw.ok (ownB 89 2 t28.A2 kr.length t28.c2 (kr.flatMap eP)) (by repeat (first | exact List.Mem.head _ | apply List.Mem.tail))).1 (by omega)) (by omega) (by omega))) trivial (fun _ _ => ?_)
   refine JA_boolT (decide_eq_true ⟨⟨rfl, rfl⟩, rfl⟩) ?_
   refine JA_takeP (i := 9) rfl rfl (by kernel_rfl) (by kernel_rfl) (by kernel_rfl) rfl (wn_g rfl rfl rfl rfl) (rp1 rfl (fun ρ hx w => ex_not rfl hx)) rfl ?_
   refine JA_takeP (i := 10) rfl rfl (by kernel_rfl) (by kernel_rfl) (by kernel_rfl) rfl (wn0 rfl) (rp_pickF rfl rfl rfl) rfl ?_
   refine JA_takeP (i := 11) rfl rfl (by kernel_rfl) (by kernel_rfl) (by kernel_rfl) rfl (wn0 rfl) (rp_move rfl rfl) rfl ?_
   refine JA_takeP (i := 12) rfl rfl (by kernel_rfl) (by kernel_rfl) (by kernel_rfl) rfl (wn_g rfl rfl rfl rfl) (rp_move rfl rfl) rfl ?_
   refine JA_takeP (i := 13) rfl rfl (by kernel_rfl) (by kernel_rfl) (by kernel_rfl) rfl (wn_g rfl rfl rfl rfl) (rp_move rfl rfl) rfl ?_
   refine JA_takeP (i := 14) rfl rfl (by kernel_rfl) (by kernel_rfl) (by kernel_rfl) rfl (wn_g rfl rfl rfl rfl) (rp2 rfl rfl (fun ρ hx hy w => ex_neq29 rfl hx hy)) rfl ?_
   refine JA_decF (fun h => h rfl) ?_
   refine JA_takeP (i := 15) rfl rfl (by kernel_rfl) (by kernel_rfl) (by kernel_rfl) rfl (wn0 rfl) (rp_pickF rfl rfl rfl) rfl ?_
   refine JA_takeP (i := 16) rfl rfl (by kernel_rfl) (by kernel_rfl) (by kernel_rfl) rfl (wn0 rfl) (rp_move rfl rfl) rfl ?_
   refine JA_one (i := 17) (by kernel_rfl) rfl (wn_g rfl rfl rfl rfl) (ow_callR (ec_fn rfl rfl cf_20) rfl rfl (fun _ => rfl) (fun w hw => Page20 w)) trivial (fun t48 _ => ?_)
   try dsimp only [BrG, List.cons_append, List.nil_append]
   refine JA_one (i := 18) (by kernel_rfl) rfl (wn_g rfl rfl rfl rfl) (ow_callR (ec_fn rfl rfl cf_21) rfl rfl (fun _ => rfl) (fun w hw => Page21 w)) trivial (fun t49 _ => ?_)
   try dsimp only [BrG, List.cons_append, List.nil_append]
   refine JA_one (i := 19) (by kernel_rfl) rfl (wn_g rfl rfl rfl rfl) (ow_callB (ec_fn rfl rfl cf_19) rfl rfl (fun w hw => Same19 4 pageG pageR w _ _ _ _ (Arr.of_own EG (hw.ok (ownB 90 4 t48.A pageG.length t48.c (pageG.flatMap eG)) (by repeat (first | exact List.Mem.head _ | apply List.Mem.tail))).1 (by decide)) (Arr.of_own EP (hw.ok (ownB 89 2 t48.A2 pageR.length t48.c2 (pageR.flatMap eP)) (by repeat (first | exact List.Mem.head _ | apply List.Mem.tail))).1 (by decide)) 4 pageG pageR _ _ _ _ (Arr.of_own EG (hw.ok (ownB 90 4 t49.A pageG.length t49.c (pageG.flatMap eG)) (by repeat (first | exact List.Mem.head _ | apply List.Mem.tail))).1 (by decide)) (Arr.of_own EP (hw.ok (ownB 89 2 t49.A2 pageR.length t49.c2 (pageR.flatMap eP)) (by repeat (first | exact List.Mem.head _ | apply List.Mem.tail))).1 (by decide)) (by decide) (by decide))) trivial (fun _ _ => ?_)
   refine JA_boolT (decide_eq_true ⟨⟨rfl, rfl⟩, rfl⟩) ?_
   refine JA_takeP (i := 20) rfl rfl (by kernel_rfl) (by kernel_rfl) (by kernel_rfl) rfl (wn_g rfl rfl rfl rfl) (rp1 rfl (fun ρ hx w => ex_not rfl hx)) rfl ?_
   refine JA_takeP (i := 21) rfl rfl (by kernel_rfl) (by kernel_rfl) (by kernel_rfl) rfl (wn0 rfl) (rp_pickF rfl rfl rfl) rfl ?_
   refine JA_done (by kernel_rfl) ?_
   refine JQ_then_n ?_
   refine J_no rfl rfl ?_
   refine J_skip ?_
   refine JQ_then_n ?_
   refine J_seq ?_
   refine J_keep (l' := [(7, _), (8, _)]) ⟨rfl, rfl, trivial⟩ ?_
   refine J_reg ?_
   refine JM rfl rfl rfl rfl rfl ?_
   refine JL_val rfl (wn0 rfl) (RP.rv (rp2 rfl rfl (fun ρ hx hy w => ex_neq29 rfl hx hy))) rfl ?_
   refine JL_dec (fun h54 => ?_) (fun h54 => ?_)
   ·refine JM rfl rfl rfl rfl rfl ?_
    refine JL_off rfl (wn_g rfl rfl rfl rfl) rfl ?_
    refine JL_off rfl (wn_g rfl rfl rfl rfl) rfl ?_
    refine JL_val rfl (wn0 rfl) (RP.rv (rp_pickT rfl rfl rfl)) rfl ?_
    refine JM rfl rfl rfl rfl rfl ?_
    try dsimp only [BrG, List.cons_append, List.nil_append]
    refine JL_op (wn_g rfl rfl rfl rfl) (ow_callR (ec_fn rfl rfl cf_20) rfl rfl (fun _ => rfl) (fun w hw => Page20 w)) (fun t60 _ => ?_)
    refine JL_op (wn_g rfl rfl rfl rfl) (ow_callB (ec_fn rfl rfl cf_17) rfl rfl (fun w hw => (by have := Check17 4 pageG pageR w _ _ _ _ (Arr.of_own EG (hw.ok (ownB 90 4 t60.A pageG.length t60.c (pageG.flatMap eG)) (by repeat (first | exact List.Mem.head _ | apply List.Mem.tail))).1 (by decide)) (Arr.of_own EP (hw.ok (ownB 89 2 t60.A2 pageR.length t60.c2 (pageR.flatMap eP)) (by repeat (first | exact List.Mem.head _ | apply List.Mem.tail))).1 (by decide)) aw_w2 aw_w2r; rw [aw_page] at this; exact this))) (fun _ _ => ?_)
    refine JL_val rfl (wn0 rfl) (RP.rv (rp_pickT rfl rfl rfl)) rfl ?_
    refine JM rfl rfl rfl rfl rfl ?_
    refine JL_op (wn_g rfl rfl rfl rfl) (ow_callB (ec_fn rfl rfl cf_14) rfl rfl (fun w hw => awake14 w)) (fun _ _ => ?_)
    refine JL_val rfl (wn0 rfl) (RP.rv (rp_pickT rfl rfl rfl)) rfl ?_
    refine JN rfl rfl rfl rfl rfl ?_
    refine JL_nil ?_
    refine JQ_then_n ?_
    refine J_ret ?_
    refine JR_one rfl (rr_tmp rfl) ?_
    intro w' hw
    exact ⟨rfl, hw.bel⟩
   ·have hbo := hko (by omega)
    have hbw := hbo.w
    have hcb := (cbB_iff _ _ _).2 hbo
    refine JM rfl rfl rfl rfl rfl ?_
    refine JL_val rfl (wn_g rfl rfl rfl rfl) (rv_agg (cs := [_, _, _]) rfl rfl ag_25 sz_25 (by repeat (first | exact List.Mem.head _ | apply List.Mem.tail)) (by rfl)) rfl ?_
    refine JL_op (wn_g rfl rfl rfl rfl) (ow_callB (ec_fn rfl rfl cf_17) rfl rfl (fun w hw => Check17 kt kg kr w _ _ _ _ (Arr.of_own EG (hw.ok (ownB 90 4 t22.A kg.length t22.c (kg.flatMap eG)) (by repeat (first | exact List.Mem.head _ | apply List.Mem.tail))).1 (by omega)) (Arr.of_own EP (hw.ok (ownB 89 2 t22.A2 kr.length t22.c2 (kr.flatMap eP)) (by repeat (first | exact List.Mem.head _ | apply List.Mem.tail))).1 (by omega)) hbw.1 hbw.2)) (fun _ _ => ?_)
    refine JL_boolT hcb ?_
    refine JL_val rfl (wn0 rfl) (RP.rv (rp_pickF rfl rfl rfl)) rfl ?_
    refine JM rfl rfl rfl rfl rfl ?_
    try dsimp only [BrG, List.cons_append, List.nil_append]
    refine JL_op (wn_g rfl rfl rfl rfl) (ow_callR (ec_fn rfl rfl cf_20) rfl rfl (fun _ => rfl) (fun w hw => Page20 w)) (fun t60 _ => ?_)
    refine JL_op (wn_g rfl rfl rfl rfl) (ow_callB (ec_fn rfl rfl cf_17) rfl rfl (fun w hw => (by have := Check17 4 pageG pageR w _ _ _ _ (Arr.of_own EG (hw.ok (ownB 90 4 t60.A pageG.length t60.c (pageG.flatMap eG)) (by repeat (first | exact List.Mem.head _ | apply List.Mem.tail))).1 (by decide)) (Arr.of_own EP (hw.ok (ownB 89 2 t60.A2 pageR.length t60.c2 (pageR.flatMap eP)) (by repeat (first | exact List.Mem.head _ | apply List.Mem.tail))).1 (by decide)) aw_w2 aw_w2r; rw [aw_page] at this; exact this))) (fun _ _ => ?_)
    refine JL_val rfl (wn0 rfl) (RP.rv (rp_pickT rfl rfl rfl)) rfl ?_
    refine JM rfl rfl rfl rfl rfl ?_
    refine JL_op (wn_g rfl rfl rfl rfl) (ow_callB (ec_fn rfl rfl cf_14) rfl rfl (fun w hw => awake14 w)) (fun _ _ => ?_)
    refine JL_val rfl (wn0 rfl) (RP.rv (rp_pickT rfl rfl rfl)) rfl ?_
    refine JN rfl rfl rfl rfl rfl ?_
    refine JL_nil ?_
    refine JQ_then_n ?_
    refine J_ret ?_
    refine JR_one rfl (rr_tmp rfl) ?_
    intro w' hw
    exact ⟨rfl, hw.bel⟩
end Go.Proofs.Ytlfbbofcnonhdaa
