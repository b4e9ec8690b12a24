/- The document on playdowns: New, Report. -/
import Derived.Test.YtlfbbofcnonhdaaCg
import Derived.Test.YtlfbbofcnonhdaaEb
namespace Go.Proofs.Ytlfbbofcnonhdaa
open Go Go.RowKit Go.Proofs

/-- Who has won each game. -/
def wL (n : Nat) (m : Int → Option Int) : List Int := (List.range n).map fun i => (m (i : Nat)).getD (-1)
theorem wL_len (n : Nat) (m : Int → Option Int) : (wL n m).length = n := by unfold wL; rw [List.length_map, List.length_range]
theorem wL_get (n : Nat) (m : Int → Option Int) (i : Nat) (h : i < (wL n m).length) : (wL n m)[i]'h = (m (i : Nat)).getD (-1) := by simp only [wL, List.getElem_map, List.getElem_range]
theorem wL_ok (G : List Gm) (m : Int → Option Int) (hv : ∀ i r, m i = some r → r = 0 ∨ r = 1) : WOk G m (wL G.length m) := ⟨wL_len _ _, wL_get _ _, hv⟩
theorem wL_none (n : Nat) : wL n (fun _ => none) = List.replicate n (-1) := by
  apply List.ext_getElem
  · rw [wL_len, List.length_replicate]
  · intro i h1 h2; rw [wL_get, List.getElem_replicate]; rfl
theorem wL_set (n : Nat) (m : Int → Option Int) (k : Nat) (r : Int) : (wL n m).set k r = wL n (upd m ((k : Nat) : Int) r) := by
  apply List.ext_getElem
  · rw [List.length_set, wL_len, wL_len]
  · intro i h1 h2
    rw [List.getElem_set, wL_get, wL_get]
    unfold upd
    by_cases e : k = i
    · rw [if_pos e, if_pos (by omega)]; rfl
    · rw [if_neg e, if_neg (by omega)]
theorem repE_zero {G : List Gm} {m : Int → Option Int} {i r : Int} (h : repE G m i r = 0) : (0 ≤ i ∧ i ≤ (G.length : Int) - 1) ∧ (0 ≤ r ∧ r ≤ 1) ∧ m i = none := by
  unfold repE at h
  split at h
  · omega
  · rename_i h1
    split at h
    · omega
    · rename_i h2
      split at h
      · omega
      · rename_i h3
        refine ⟨Classical.not_not.1 h1, Classical.not_not.1 h2, ?_⟩
        cases hm : m i with
        | none => rfl
        | some s => rw [hm] at h3; exact absurd rfl h3
set_option maxRecDepth 100000 in
set_option maxHeartbeats 4000000 in
theorem New41 (T : Int) (A : Option Addr) (n c : Nat) (A2 : Option Addr) (n2 c2 : Nat) (w : World) (hn : n ≤ 64) : Calls Try.prog 41 #[Brv T A n c A2 n2 c2] w (Ret w (fun _ : Option Addr × Nat => True) (fun t => Qdv T A n c A2 n2 c2 t.1 (List.replicate n (-1 : Int)).length t.2) (fun t => [ownB 3 1 t.1 (List.replicate n (-1 : Int)).length t.2 ((List.replicate n (-1 : Int)).flatMap eI)])) := by
 refine J_enter (fun _ => False) (vs := [Brv T A n c A2 n2 c2]) (k := 19) (l := [(0, Brv T A n c A2 n2 c2)]) Try.func41 rfl rfl Try.ntmps41 rfl rfl (Wd.start _) ?_
 refine J_seq ?_
 refine J_reg ?_
 refine JL_op (wn0 rfl) (ow_box (vs := [_, _, _]) rfl rfl rfl rfl rfl) (fun b1 hb1 => ?_)
 refine JL_op (wn0 rfl) (ow_alloc rfl rfl zv_77 rfl rfl) (fun b2 hb2 => ?_)
 refine JL_nil ?_
 refine JQ_then_n ?_
 refine J_seq ?_
 refine J_reg ?_
 refine JV (rv_agg (cs := [_, _, _]) rfl rfl ag_25 sz_25 (by repeat constructor) (by rfl)) ?_
 refine JP (rp_buildC (fun us => [us.getD 0 undef, .slice none 0 0]) rfl rfl (fun w => by kernel_rfl)) ?_
 refine JL_op (wn0 rfl) (ow_alloc rfl rfl zv_77 rfl rfl) (fun b3 hb3 => ?_)
 refine JL_op (wn0 rfl) (ow_store (cs := [_, _, _, _]) (vs' := [_, _, _, _]) rfl rfl rfl rfl rfl sz_77 rfl (by repeat constructor) (by rfl) (by rfl)) (fun _ _ => ?_)
 refine JL_nil ?_
 refine JQ_then_n ?_
 refine J_seq ?_
 refine J_seq ?_
 refine J_own0 3 1 ?_
 refine J_reg ?_
 refine JN rfl rfl rfl rfl rfl ?_
 refine JL_nil ?_
 refine JQ_then_n ?_
 refine J_block ?_
 refine J_loop (T := Nat × Option Addr × Nat) (fun q => q.1 ≤ n) (fun q => [(1, .pointer (some ⟨b1, 0, none⟩)), (2, .pointer (some ⟨b2, 0, none⟩)), (3, .pointer (some ⟨b3, 0, none⟩)), (4, .int .i64 (q.1 : Nat))]) (fun q => [cellB b3 [.int .i64 T, .slice A n c, .slice A2 n2 c2, .slice q.2.1 (List.replicate q.1 (-1 : Int)).length q.2.2] 77, ownB 3 1 q.2.1 (List.replicate q.1 (-1 : Int)).length q.2.2 ((List.replicate q.1 (-1 : Int)).flatMap eI), cellB b2 [.int .i64 0, .slice none 0 0, .slice none 0 0, .slice none 0 0] 77, cellB b1 [.int .i64 T, .slice A n c, .slice A2 n2 c2] 25]) (fun q => n - q.1) (0, none, 0) (Nat.zero_le _) ⟨rfl, rfl, rfl, rfl, trivial⟩ (by repeat constructor) ?_
 rintro ⟨k, A5, c5⟩ hk
 dsimp only at hk ⊢
 have hrl : (List.replicate k (-1 : Int)).length = k := List.length_replicate
 refine J_seq ?_
 refine J_seq ?_
 refine J_reg ?_
 refine JM rfl rfl rfl rfl rfl ?_
 refine JP (rp_fieldC (off' := 1) rfl rfl fa_25_1 rfl) ?_
 refine JV (rv_cell rfl rfl ag_22 (by repeat constructor) (by rfl)) ?_
 refine JP (rp1 rfl (fun ρ hx w => ex_len (A := _) (c := _) rfl Try.underlying22 hx)) ?_
 refine JP (rp2 rfl rfl (fun ρ hx hy w => ex_lssD rfl hx hy)) ?_
 refine JL_dec (fun h11 => ?_) (fun h11 => ?_)
 ·refine JL_nil ?_
  refine JQ_then_n ?_
  refine J_yes rfl rfl ?_
  refine J_skip ?_
  refine JQ_then_n ?_
  refine J_seq ?_
  refine J_block ?_
  refine J_keep (l' := [(1, _), (2, _), (3, _), (4, _)]) ⟨rfl, rfl, rfl, rfl, trivial⟩ ?_
  refine J_reg ?_
  refine JP (rp_fieldC (off' := 3) rfl rfl fa_77_1 rfl) ?_
  refine JV (rv_cell rfl rfl ag_26 (by repeat constructor) (by rfl)) ?_
  refine JL_op (wn0 rfl) (ow_sliceC (vs := [_]) (ty := 3) rfl rfl (by rfl) rfl rfl (fun _ => by kernel_rfl)) (fun b16 hb16 => ?_)
  refine JL_opS (wn0 rfl) (ow_app1 EI (by decide) ((-1 : Int)) Try.underlying26 Try.info3 rfl (by decide) rfl rfl rfl rfl rfl (by repeat constructor) (by rfl) (by omega) (by intro A c; repeat constructor)) (fun A17 c17 => ?_)
  refine JP (rp_fieldC (off' := 3) rfl rfl fa_77_1 rfl) ?_
  refine JL_op (wn0 rfl) (ow_store (cs := [_]) (vs' := [_, _, _, _]) rfl rfl rfl rfl rfl sz_26 rfl (by repeat constructor) (by rfl) (by rfl)) (fun _ _ => ?_)
  refine JL_nil ?_
  refine JQ_block_n ?_
  refine JQ_then_n ?_
  refine J_keep (l' := [(1, _), (2, _), (3, _), (4, _)]) ⟨rfl, rfl, rfl, rfl, trivial⟩ ?_
  refine J_reg ?_
  refine JM rfl rfl rfl rfl rfl ?_
  refine JP (rp2 rfl rfl (fun ρ hx hy w => ex_add rfl hx hy (by omega))) ?_
  refine JN rfl rfl rfl rfl rfl ?_
  refine JL_nil ?_
  have hrs : List.replicate (k + 1) (-1 : Int) = List.replicate k (-1) ++ [-1] := List.replicate_succ'
  exact JQ_round (k + 1, A17, c17) (by dsimp only; omega) (by dsimp only; omega) ⟨rfl, rfl, rfl, (congrArg some (by go_num)), trivial⟩ (by (try dsimp only); rw [hrs]; repeat (first | exact Pk.nil _ | (refine Pk.pick (by repeat (first | exact Rm.here _ | apply Rm.there)) ?_)))
 ·refine JL_nil ?_
  refine JQ_then_n ?_
  refine J_no rfl rfl ?_
  refine J_exit ?_
  refine JQ_then_x ?_
  refine JQ_then_x ?_
  refine JQ_block_y rfl ?_
  refine JQ_then_n ?_
  refine J_seq ?_
  refine J_keep (l' := [(2, _), (3, _)]) ⟨rfl, rfl, trivial⟩ ?_
  refine J_reg ?_
  refine JV (rv_agg (cs := [_, _, _, _]) rfl rfl ag_77 sz_77 (by repeat constructor) (by rfl)) ?_
  refine JL_op (wn0 rfl) (ow_store (cs := [_, _, _, _]) (vs' := [_, _, _, _]) rfl rfl rfl rfl rfl sz_77 rfl (by repeat constructor) (by rfl) (by rfl)) (fun _ _ => ?_)
  refine JL_nil ?_
  refine JQ_then_n ?_
  refine J_ret ?_
  refine JR_one rfl (rr_agg (cs := [_, _, _, _]) rfl ag_77 sz_77 (by repeat constructor) (by rfl)) ?_
  intro w' hw
  obtain rfl : k = n := by omega
  exact ⟨(A5, c5), trivial, rfl, hw.pick (by repeat constructor)⟩
set_option maxRecDepth 100000 in
set_option maxHeartbeats 4000000 in
theorem Report42_no (T : Nat) (G : List Gm) (R : List (Int × Int)) (W : List Int) (m : Int → Option Int) (hW : WOk G m W) (hGl : G.length ≤ 64) (i r : Int) (he : repE G m i r ≠ 0) (w : World) (A A2 A3 : Option Addr) (c c2 c3 : Nat) (hq : QdF T G R W w A A2 A3 c c2 c3) : Calls Try.prog 42 #[Qdv (T : Nat) A G.length c A2 R.length c2 A3 W.length c3, .int .i64 i, .int .i64 r] w (Back (.tuple #[Qdv (T : Nat) A G.length c A2 R.length c2 A3 W.length c3, .int .i64 (repE G m i r)]) w) := by
 refine J_enter (fun _ => False) (vs := [Qdv (T : Nat) A G.length c A2 R.length c2 A3 W.length c3, .int .i64 i, .int .i64 r]) (k := 35) (l := [(0, Qdv (T : Nat) A G.length c A2 R.length c2 A3 W.length c3), (1, .int .i64 i), (2, .int .i64 r)]) Try.func42 rfl rfl Try.ntmps42 rfl rfl (Wd.start _) ?_
 refine J_seq ?_
 refine J_reg ?_
 refine JL_op (wn0 rfl) (ow_box (vs := [_, _, _, _]) rfl rfl rfl rfl rfl) (fun b3 hb3 => ?_)
 refine JL_op (wn0 rfl) (ow_alloc rfl rfl zv_77 rfl rfl) (fun b6 hb6 => ?_)
 refine JN rfl rfl rfl rfl rfl ?_
 refine JL_nil ?_
 refine JQ_then_n ?_
 refine J_seq ?_
 refine J_seq ?_
 have hWl := hW.len
 refine J_reg ?_
 refine JM rfl rfl rfl rfl rfl ?_
 refine JP (rp_fieldC (off' := 3) rfl rfl fa_77_1 rfl) ?_
 refine JV (rv_cell rfl rfl ag_26 (by repeat constructor) (by rfl)) ?_
 refine JP (rp1 rfl (fun ρ hx w => ex_len (A := _) (c := _) rfl Try.underlying26 hx)) ?_
 refine JP (rp2 rfl rfl (fun ρ hx hy w => ex_sub rfl hx hy (by omega))) ?_
 refine JL_op (wn0 rfl) (ow_callP (ec_fn rfl rfl cf_52) rfl rfl (fun w hw => in52 i 0 ((W.length : Nat) - 1) w)) (fun _ _ => ?_)
 refine JL_bool (fun h13 => ?_) (fun h13 => ?_)
 ·refine JP (rp1 rfl (fun ρ hx w => ex_not rfl hx)) ?_
  refine JL_nil ?_
  refine JQ_then_n ?_
  refine J_no rfl rfl ?_
  refine J_skip ?_
  refine JQ_then_n ?_
  refine J_seq ?_
  refine J_seq ?_
  refine J_keep (l' := [(1, _), (2, _), (3, _), (6, _)]) ⟨rfl, rfl, rfl, rfl, trivial⟩ ?_
  refine J_reg ?_
  refine JM rfl rfl rfl rfl rfl ?_
  refine JL_op (wn0 rfl) (ow_callP (ec_fn rfl rfl cf_52) rfl rfl (fun w hw => in52 r 0 1 w)) (fun _ _ => ?_)
  refine JL_bool (fun h17 => ?_) (fun h17 => ?_)
  ·refine JP (rp1 rfl (fun ρ hx w => ex_not rfl hx)) ?_
   refine JL_nil ?_
   refine JQ_then_n ?_
   refine J_no rfl rfl ?_
   refine J_skip ?_
   refine JQ_then_n ?_
   refine J_seq ?_
   refine J_seq ?_
   have hi : 0 ≤ i ∧ i ≤ (W.length : Int) - 1 := of_decide_eq_true h13
   obtain ⟨k, rfl⟩ := Int.eq_ofNat_of_zero_le hi.1
   have hltW : k < W.length := by omega
   obtain ⟨v, hWv⟩ : ∃ v, W[k]'hltW = v := ⟨_, rfl⟩
   have hWm : v = (m ((k : Nat) : Int)).getD (-1) := by rw [← hWv]; exact hW.get k hltW
   obtain ⟨Ag3, cg3, eg3, -, -, hA3⟩ := id hq.w
   injection eg3 with e1 e2 e3
   subst e1 e3
   obtain ⟨bw, pw, rfl, hhW⟩ := hA3 (by intro e; subst e; simp at hltW)
   have hv0 : 0 ≤ v := by
     by_cases hv : v < 0
     · exfalso; apply he; unfold repE; rw [if_neg (fun h => h (by rw [← hWl]; exact of_decide_eq_true h13)), if_neg (fun h => h (of_decide_eq_true h17)), if_neg]
       cases hm : m ((k : Nat) : Int) with
       | none => intro h; cases h
       | some s => have := hW.v _ _ hm; rw [hm] at hWm; simp only [Option.getD_some] at hWm; omega
     · omega
   refine J_reg ?_
   refine JP (rp_fieldC (off' := 3) rfl rfl fa_77_1 rfl) ?_
   refine JV (rv_cell rfl rfl ag_26 (by repeat constructor) (by rfl)) ?_
   refine JM rfl rfl rfl rfl rfl ?_
   refine JP (rp2 rfl rfl (fun ρ hx hy w => ex_indexI (k := k) rfl hx hy rfl Try.underlying26 sz_3 (by omega))) ?_
   refine JV (rv_hold (j := k) rfl rfl ag_3 (fun h => h) hhW hltW (by omega) (by rw [hWv]; rfl)) ?_
   refine JP (rp2 rfl rfl (fun ρ hx hy w => ex_geqD rfl hx hy)) ?_
   refine JL_decT (by omega) ?_
   refine JL_nil ?_
   refine JQ_then_n ?_
   refine J_yes rfl rfl ?_
   refine J_seq ?_
   refine J_keep (l' := [(3, _), (6, _)]) ⟨rfl, rfl, trivial⟩ ?_
   refine J_reg ?_
   refine JV (rv_agg (cs := [_, _, _, _]) rfl rfl ag_77 sz_77 (by repeat constructor) (by rfl)) ?_
   refine JL_op (wn0 rfl) (ow_store (cs := [_, _, _, _]) (vs' := [_, _, _, _]) rfl rfl rfl rfl rfl sz_77 rfl (by repeat constructor) (by rfl) (by rfl)) (fun _ _ => ?_)
   refine JN rfl rfl rfl rfl rfl ?_
   refine JL_nil ?_
   refine JQ_then_n ?_
   refine J_ret ?_
   refine JQ_then_r ?_
   refine JR_two rfl (rr_agg (cs := [_, _, _, _]) rfl ag_77 sz_77 (by repeat constructor) (by rfl)) (rr_tmp rfl) ?_
   intro w' hw
   have e : repE G m ((k : Nat) : Int) r = 8 := by
     unfold repE; rw [if_neg (fun h => h (by rw [← hWl]; exact of_decide_eq_true h13)), if_neg (fun h => h (of_decide_eq_true h17)), if_pos]
     cases hm : m ((k : Nat) : Int) with
     | none => exfalso; rw [hm] at hWm; simp only [Option.getD_none] at hWm; omega
     | some s => rfl
   rw [e]
   exact ⟨rfl, hw.bel⟩
  ·refine JP (rp1 rfl (fun ρ hx w => ex_not rfl hx)) ?_
   refine JL_nil ?_
   refine JQ_then_n ?_
   refine J_yes rfl rfl ?_
   refine J_seq ?_
   refine J_keep (l' := [(3, _), (6, _)]) ⟨rfl, rfl, trivial⟩ ?_
   refine J_reg ?_
   refine JV (rv_agg (cs := [_, _, _, _]) rfl rfl ag_77 sz_77 (by repeat constructor) (by rfl)) ?_
   refine JL_op (wn0 rfl) (ow_store (cs := [_, _, _, _]) (vs' := [_, _, _, _]) rfl rfl rfl rfl rfl sz_77 rfl (by repeat constructor) (by rfl) (by rfl)) (fun _ _ => ?_)
   refine JN rfl rfl rfl rfl rfl ?_
   refine JL_nil ?_
   refine JQ_then_n ?_
   refine J_ret ?_
   refine JQ_then_r ?_
   refine JR_two rfl (rr_agg (cs := [_, _, _, _]) rfl ag_77 sz_77 (by repeat constructor) (by rfl)) (rr_tmp rfl) ?_
   intro w' hw
   have e : repE G m i r = 4 := by
     unfold repE; rw [if_neg (fun h => h (by rw [← hWl]; exact of_decide_eq_true h13)), if_pos (of_decide_eq_false h17)]
   rw [e]
   exact ⟨rfl, hw.bel⟩
 ·refine JP (rp1 rfl (fun ρ hx w => ex_not rfl hx)) ?_
  refine JL_nil ?_
  refine JQ_then_n ?_
  refine J_yes rfl rfl ?_
  refine J_seq ?_
  refine J_keep (l' := [(3, _), (6, _)]) ⟨rfl, rfl, trivial⟩ ?_
  refine J_reg ?_
  refine JV (rv_agg (cs := [_, _, _, _]) rfl rfl ag_77 sz_77 (by repeat constructor) (by rfl)) ?_
  refine JL_op (wn0 rfl) (ow_store (cs := [_, _, _, _]) (vs' := [_, _, _, _]) rfl rfl rfl rfl rfl sz_77 rfl (by repeat constructor) (by rfl) (by rfl)) (fun _ _ => ?_)
  refine JN rfl rfl rfl rfl rfl ?_
  refine JL_nil ?_
  refine JQ_then_n ?_
  refine J_ret ?_
  refine JQ_then_r ?_
  refine JR_two rfl (rr_agg (cs := [_, _, _, _]) rfl ag_77 sz_77 (by repeat constructor) (by rfl)) (rr_tmp rfl) ?_
  intro w' hw
  have e : repE G m i r = 7 := if_pos (by rw [← hWl]; exact of_decide_eq_false h13)
  rw [e]
  exact ⟨rfl, hw.bel⟩
set_option maxRecDepth 100000 in
set_option maxHeartbeats 4000000 in
theorem Report42 (T : Nat) (G : List Gm) (R : List (Int × Int)) (W : List Int) (m : Int → Option Int) (hW : WOk G m W) (hGl : G.length ≤ 64) (i r : Int) (he : repE G m i r = 0) (w : World) (A A2 A3 : Option Addr) (c c2 c3 : Nat) (hq : QdF T G R W w A A2 A3 c c2 c3) : Calls Try.prog 42 #[Qdv (T : Nat) A G.length c A2 R.length c2 A3 W.length c3, .int .i64 i, .int .i64 r] w (Ret w (fun _ : Option Addr × Nat => True) (fun t => .tuple #[Qdv (T : Nat) A G.length c A2 R.length c2 t.1 (W.set i.toNat r).length t.2, .int .i64 0]) (fun t => [ownB 3 1 t.1 (W.set i.toNat r).length t.2 ((W.set i.toNat r).flatMap eI)])) := by
 refine J_enter (fun _ => False) (vs := [Qdv (T : Nat) A G.length c A2 R.length c2 A3 W.length c3, .int .i64 i, .int .i64 r]) (k := 35) (l := [(0, Qdv (T : Nat) A G.length c A2 R.length c2 A3 W.length c3), (1, .int .i64 i), (2, .int .i64 r)]) Try.func42 rfl rfl Try.ntmps42 rfl rfl (Wd.start _) ?_
 refine J_seq ?_
 refine J_reg ?_
 refine JL_op (wn0 rfl) (ow_box (vs := [_, _, _, _]) rfl rfl rfl rfl rfl) (fun b3 hb3 => ?_)
 refine JL_op (wn0 rfl) (ow_alloc rfl rfl zv_77 rfl rfl) (fun b6 hb6 => ?_)
 refine JN rfl rfl rfl rfl rfl ?_
 refine JL_nil ?_
 refine JQ_then_n ?_
 refine J_seq ?_
 refine J_seq ?_
 have hWl := hW.len
 obtain ⟨hi, hr, hmn⟩ := repE_zero he
 rw [← hWl] at hi
 refine J_reg ?_
 refine JM rfl rfl rfl rfl rfl ?_
 refine JP (rp_fieldC (off' := 3) rfl rfl fa_77_1 rfl) ?_
 refine JV (rv_cell rfl rfl ag_26 (by repeat constructor) (by rfl)) ?_
 refine JP (rp1 rfl (fun ρ hx w => ex_len (A := _) (c := _) rfl Try.underlying26 hx)) ?_
 refine JP (rp2 rfl rfl (fun ρ hx hy w => ex_sub rfl hx hy (by omega))) ?_
 refine JL_op (wn0 rfl) (ow_callP (ec_fn rfl rfl cf_52) rfl rfl (fun w hw => in52 i 0 ((W.length : Nat) - 1) w)) (fun _ _ => ?_)
 refine JL_boolT (decide_eq_true hi) ?_
 refine JP (rp1 rfl (fun ρ hx w => ex_not rfl hx)) ?_
 refine JL_nil ?_
 refine JQ_then_n ?_
 refine J_no rfl rfl ?_
 refine J_skip ?_
 refine JQ_then_n ?_
 refine J_seq ?_
 refine J_seq ?_
 refine J_keep (l' := [(1, _), (2, _), (3, _), (6, _)]) ⟨rfl, rfl, rfl, rfl, trivial⟩ ?_
 refine J_reg ?_
 refine JM rfl rfl rfl rfl rfl ?_
 refine JL_op (wn0 rfl) (ow_callP (ec_fn rfl rfl cf_52) rfl rfl (fun w hw => in52 r 0 1 w)) (fun _ _ => ?_)
 refine JL_boolT (decide_eq_true hr) ?_
 refine JP (rp1 rfl (fun ρ hx w => ex_not rfl hx)) ?_
 refine JL_nil ?_
 refine JQ_then_n ?_
 refine J_no rfl rfl ?_
 refine J_skip ?_
 refine JQ_then_n ?_
 refine J_seq ?_
 refine J_seq ?_
 obtain ⟨k, rfl⟩ := Int.eq_ofNat_of_zero_le hi.1
 have hltW : k < W.length := by omega
 obtain ⟨v, hWv⟩ : ∃ v, W[k]'hltW = v := ⟨_, rfl⟩
 have hWm : v = (m ((k : Nat) : Int)).getD (-1) := by rw [← hWv]; exact hW.get k hltW
 obtain ⟨Ag3, cg3, eg3, -, -, hA3⟩ := id hq.w
 injection eg3 with e1 e2 e3
 subst e1 e3
 obtain ⟨bw, pw, rfl, hhW⟩ := hA3 (by intro e; subst e; simp at hltW)
 refine J_reg ?_
 refine JP (rp_fieldC (off' := 3) rfl rfl fa_77_1 rfl) ?_
 refine JV (rv_cell rfl rfl ag_26 (by repeat constructor) (by rfl)) ?_
 refine JM rfl rfl rfl rfl rfl ?_
 refine JP (rp2 rfl rfl (fun ρ hx hy w => ex_indexI (k := k) rfl hx hy rfl Try.underlying26 sz_3 (by omega))) ?_
 refine JV (rv_hold (j := k) rfl rfl ag_3 (fun h => h) hhW hltW (by omega) (by rw [hWv]; rfl)) ?_
 refine JP (rp2 rfl rfl (fun ρ hx hy w => ex_geqD rfl hx hy)) ?_
 refine JL_decF (by rw [hWm, hmn]; show ¬ (0 : Int) ≤ -1; omega) ?_
 refine JL_nil ?_
 refine JQ_then_n ?_
 refine J_no rfl rfl ?_
 refine J_skip ?_
 refine JQ_then_n ?_
 refine J_seq ?_
 refine J_keep (l' := [(1, _), (2, _), (3, _), (6, _)]) ⟨rfl, rfl, rfl, rfl, trivial⟩ ?_
 refine J_reg ?_
 refine JL_op (wn0 rfl) (ow_sliceC (ty := 3) rfl rfl rfl rfl rfl (fun _ => by kernel_rfl)) (fun b27 hb27 => ?_)
 refine JL_asOwn (b := b27) (ty := 3) (kk := 1) (m := 0) (by repeat constructor) rfl (by omega) ?_
 refine JP (rp_fieldC (off' := 3) rfl rfl fa_77_1 rfl) ?_
 refine JV (rv_cell rfl rfl ag_26 (by repeat constructor) (by rfl)) ?_
 refine JL_opS (wn0 rfl) (ow_appX (L := ([] : List Int)) (M := W) EI (by decide) Try.underlying26 Try.info3 rfl (by decide) sz_3 rfl rfl rfl rfl rfl rfl (fun e => by cases e) (Nat.le_refl 0) (fun w hw => (hq.up hw.bel).w) (by rw [List.length_nil]; omega) (by intro A c; repeat constructor)) (fun A30 c30 => ?_)
 dsimp only [List.nil_append]
 refine JP (rp_fieldC (off' := 3) rfl rfl fa_77_1 rfl) ?_
 refine JL_op (wn0 rfl) (ow_store (cs := [_]) (vs' := [_, _, _, _]) rfl rfl rfl rfl rfl sz_26 rfl (by repeat constructor) (by rfl) (by rfl)) (fun _ _ => ?_)
 refine JL_nil ?_
 refine JQ_then_n ?_
 refine J_seq ?_
 refine J_fact (fun hf => ?_)
 obtain ⟨g8, rfl⟩ := own_some (A := A30) (ty := 3) (k := 1) (m := W.length) (c := c30) hf (by repeat constructor) (by omega)
 refine J_keep (l' := [(1, _), (2, _), (3, _), (6, _)]) ⟨rfl, rfl, rfl, rfl, trivial⟩ ?_
 refine J_reg ?_
 refine JP (rp_fieldC (off' := 3) rfl rfl fa_77_1 rfl) ?_
 refine JV (rv_cell rfl rfl ag_26 (by repeat constructor) (by rfl)) ?_
 refine JM rfl rfl rfl rfl rfl ?_
 refine JM rfl rfl rfl rfl rfl ?_
 refine JP (rp2 rfl rfl (fun ρ hx hy w => ex_indexI (k := k) rfl hx hy rfl Try.underlying26 sz_3 (by omega))) ?_
 refine JL_op (wn0 rfl) (ow_storeE EI (cs := [_]) r rfl rfl rfl rfl rfl sz_3 rfl (by repeat constructor) hltW (Nat.le_of_ble_eq_true rfl) rfl) (fun _ _ => ?_)
 refine JL_nil ?_
 refine JQ_then_n ?_
 refine J_seq ?_
 refine J_keep (l' := [(3, _), (6, _)]) ⟨rfl, rfl, trivial⟩ ?_
 refine J_reg ?_
 refine JV (rv_agg (cs := [_, _, _, _]) rfl rfl ag_77 sz_77 (by repeat constructor) (by rfl)) ?_
 refine JL_op (wn0 rfl) (ow_store (cs := [_, _, _, _]) (vs' := [_, _, _, _]) rfl rfl rfl rfl rfl sz_77 rfl (by repeat constructor) (by rfl) (by rfl)) (fun _ _ => ?_)
 refine JN rfl rfl rfl rfl rfl ?_
 refine JL_nil ?_
 refine JQ_then_n ?_
 refine J_ret ?_
 refine JR_two rfl (rr_agg (cs := [_, _, _, _]) rfl ag_77 sz_77 (by repeat constructor) (by rfl)) (rr_tmp rfl) ?_
 intro w' hw
 have e : (W.set ((k : Nat) : Int).toNat r).length = W.length := by rw [List.length_set]
 rw [Int.toNat_natCast] at e
 rw [Int.toNat_natCast]
 exact ⟨(some ⟨g8, 0, none⟩, c30), trivial, by rw [e], by rw [e]; exact hw.pick (by repeat constructor)⟩
end Go.Proofs.Ytlfbbofcnonhdaa
