import Derived.Test.YtlfbbofcnonhdaaEq
import Derived.Test.YtlfbbofcnonhdaaJe
/- Contracts: Compare, measures, orders, IndexFunc, ContainsFunc. -/
namespace Go.Proofs.Ytlfbbofcnonhdaa
open Go Go.RowKit Go.Proofs

def cmpI (x y : Int) : Int := if x < y then -1 else if y < x then 1 else 0
theorem isNaN109 (x : Int) (w : World) : Calls Try.prog 109 #[.int .i64 x] w (Back (.bool false) w) := by
 refine J_enter (fun _ => False) (vs := [.int .i64 x]) (k := 5) (l := [(0, .int .i64 x)]) Try.func109 rfl rfl Try.ntmps109 rfl rfl (Wd.start _) ?_
 refine J_seq ?_
 refine J_reg ?_
 refine JN rfl rfl rfl rfl rfl ?_
 refine JL_nil ?_
 refine JQ_then_n ?_
 refine J_seq ?_
 refine J_reg ?_
 refine JM rfl rfl rfl rfl rfl ?_
 refine JM rfl rfl rfl rfl rfl ?_
 refine JP (rp2 rfl rfl (fun ρ hx hy w => ex_neqD rfl hx hy)) ?_
 refine JL_decF (fun h => h rfl) ?_
 refine JN rfl rfl rfl rfl rfl ?_
 refine JL_nil ?_
 refine JQ_then_n ?_
 refine J_ret ?_
 refine JR_one rfl (rr_tmp rfl) ?_
 intro w' hw
 exact ⟨rfl, hw.bel⟩
set_option maxRecDepth 100000 in
set_option maxHeartbeats 4000000 in
theorem Compare104 (x y : Int) (w : World) : Calls Try.prog 104 #[.int .i64 x, .int .i64 y] w (Back (.int .i64 (cmpI x y)) w) := by
 refine J_enter (fun _ => False) (vs := [.int .i64 x, .int .i64 y]) (k := 18) (l := [(0, .int .i64 x), (1, .int .i64 y)]) Try.func104 rfl rfl Try.ntmps104 rfl rfl (Wd.start _) ?_
 refine J_seq ?_
 refine J_reg ?_
 refine JN rfl rfl rfl rfl rfl ?_
 refine JL_nil ?_
 refine JQ_then_n ?_
 refine J_seq ?_
 refine J_reg ?_
 refine JM rfl rfl rfl rfl rfl ?_
 refine JL_op (wn0 rfl) (ow_callB (ec_fn rfl rfl cf_109) rfl rfl (fun w hw => isNaN109 _ w)) (fun _ _ => ?_)
 refine JN rfl rfl rfl rfl rfl ?_
 refine JL_nil ?_
 refine JQ_then_n ?_
 refine J_seq ?_
 refine J_reg ?_
 refine JM rfl rfl rfl rfl rfl ?_
 refine JL_op (wn0 rfl) (ow_callB (ec_fn rfl rfl cf_109) rfl rfl (fun w hw => isNaN109 _ w)) (fun _ _ => ?_)
 refine JN rfl rfl rfl rfl rfl ?_
 refine JL_nil ?_
 refine JQ_then_n ?_
 refine J_seq ?_
 refine J_seq ?_
 refine J_keep (l' := [(0, _), (1, _), (5, _), (6, _)]) ⟨rfl, rfl, rfl, rfl, trivial⟩ ?_
 refine J_reg ?_
 refine JM rfl rfl rfl rfl rfl ?_
 refine JL_nil ?_
 refine JQ_then_n ?_
 refine J_no rfl rfl ?_
 refine J_skip ?_
 refine JQ_then_n ?_
 refine J_seq ?_
 refine J_seq ?_
 refine J_reg ?_
 refine JM rfl rfl rfl rfl rfl ?_
 refine JL_nil ?_
 refine JQ_then_n ?_
 refine J_no rfl rfl ?_
 refine J_skip ?_
 refine JQ_then_n ?_
 refine J_seq ?_
 refine J_seq ?_
 refine J_keep (l' := [(0, _), (1, _)]) ⟨rfl, rfl, trivial⟩ ?_
 refine J_reg ?_
 refine JM rfl rfl rfl rfl rfl ?_
 refine JM rfl rfl rfl rfl rfl ?_
 refine JP (rp2 rfl rfl (fun ρ hx hy w => ex_lssD rfl hx hy)) ?_
 refine JL_dec (fun h16 => ?_) (fun h16 => ?_)
 ·refine JL_nil ?_
  refine JQ_then_n ?_
  refine J_yes rfl rfl ?_
  refine J_seq ?_
  refine J_keep (l' := []) trivial ?_
  refine J_reg ?_
  refine JN rfl rfl rfl rfl rfl ?_
  refine JL_nil ?_
  refine JQ_then_n ?_
  refine J_ret ?_
  refine JQ_then_r ?_
  refine JR_one rfl (rr_tmp rfl) ?_
  intro w' hw
  exact ⟨by unfold cmpI; rw [if_pos h16], hw.bel⟩
 ·refine JL_nil ?_
  refine JQ_then_n ?_
  refine J_no rfl rfl ?_
  refine J_skip ?_
  refine JQ_then_n ?_
  refine J_seq ?_
  refine J_seq ?_
  refine J_reg ?_
  refine JM rfl rfl rfl rfl rfl ?_
  refine JM rfl rfl rfl rfl rfl ?_
  refine JP (rp2 rfl rfl (fun ρ hx hy w => ex_gtrD rfl hx hy)) ?_
  refine JL_dec (fun h19 => ?_) (fun h19 => ?_)
  ·refine JL_nil ?_
   refine JQ_then_n ?_
   refine J_yes rfl rfl ?_
   refine J_seq ?_
   refine J_keep (l' := []) trivial ?_
   refine J_reg ?_
   refine JN rfl rfl rfl rfl rfl ?_
   refine JL_nil ?_
   refine JQ_then_n ?_
   refine J_ret ?_
   refine JQ_then_r ?_
   refine JR_one rfl (rr_tmp rfl) ?_
   intro w' hw
   exact ⟨by unfold cmpI; rw [if_neg h16, if_pos h19], hw.bel⟩
  ·refine JL_nil ?_
   refine JQ_then_n ?_
   refine J_no rfl rfl ?_
   refine J_skip ?_
   refine JQ_then_n ?_
   refine J_seq ?_
   refine J_keep (l' := []) trivial ?_
   refine J_reg ?_
   refine JN rfl rfl rfl rfl rfl ?_
   refine JL_nil ?_
   refine JQ_then_n ?_
   refine J_ret ?_
   refine JR_one rfl (rr_tmp rfl) ?_
   intro w' hw
   exact ⟨by unfold cmpI; rw [if_neg h16, if_neg h19], hw.bel⟩
/-- The standings, as they lie in the memory of the caller. -/
structure StF (T : Nat) (l : List Re) (w : World) (sb rb mb : Nat) : Prop where
 s0 : w.cell? ⟨sb, 0, none⟩ = some (.slice (some ⟨rb, 0, none⟩) T T)
 s1 : w.cell? ⟨sb, 1, none⟩ = some (.map (some mb))
 row : HoldL 8 eW w rb 0 (rowsS T (rowN l))
 mp : ∃ n c, MapF 42 3 kP W2 dI w mb n c (wonM l)
theorem StF.up {T : Nat} {l : List Re} {w w' : World} {sb rb mb : Nat} (h : StF T l w sb rb mb) (hb : Below w.heap.size w w') : StF T l w' sb rb mb := by
 obtain ⟨n, c, h1⟩ := h.mp
 exact ⟨upc h.s0 hb, upc h.s1 hb, h.row.up EW hb, n, c, h1.up hb⟩
theorem StF.of {T : Nat} {l : List Re} {B : Bs} {H : List It} {w : World} {t : Nat × Nat × Nat × Nat × Nat} (hw : Wd B H w) (h1 : cellB t.1 [.slice (some ⟨t.2.1, 0, none⟩) T T, .map (some t.2.2.1)] 117 ∈ H) (h2 : ownB 58 8 (some ⟨t.2.1, 0, none⟩) T T ((rowsS T (rowN l)).flatMap eW) ∈ H) (h3 : mapB 42 3 kP W2 dI t.2.2.1 t.2.2.2.1 t.2.2.2.2 (wonM l) ∈ H) : StF T l w t.1 t.2.1 t.2.2.1 := by
 refine ⟨cellB_get (hw.ok _ h1).1 rfl, cellB_get (hw.ok _ h1).1 rfl, fun j hj i hi => ?_, _, _, (hw.ok _ h3).1⟩
 rw [Nat.zero_add, ← flat_get EW hj i hi]
 have hlen := flat_len EW (rowsS T (rowN l))
 have hj' : (j + 1) * 8 ≤ (rowsS T (rowN l)).length * 8 := Nat.mul_le_mul_right 8 hj
 have hlt : j * 8 + i < ((rowsS T (rowN l)).flatMap eW).length := by rw [hlen]; rw [Nat.succ_mul] at hj'; omega
 rw [List.getElem?_eq_getElem hlt]
 exact ownB_get (hw.ok _ h2).1 rfl (List.getElem?_eq_getElem hlt)
theorem rowN_bd (l : List Re) (t : Int) (h : ∀ x ∈ l, ReB x) : (0 ≤ (rowN l t).draws ∧ (rowN l t).draws ≤ 2 * l.length) ∧ (0 ≤ (rowN l t).len ∧ (rowN l t).len ≤ 200000 * l.length) ∧ (0 ≤ (rowN l t).wins ∧ (rowN l t).wins ≤ 2 * l.length) := by
 obtain ⟨q1, q2, q3, q4, q5, q6, q7, q8, q9, q10⟩ := raw_b l t h
 unfold rowN cutR
 split
 ·simp only; omega
 ·omega
/-- Teams' measures, compared. -/
def msC (l : List Re) (a b : Int) : Int := if (rowN l a).draws = 0 ∨ (rowN l b).draws = 0 then min 1 (rowN l b).draws - min 1 (rowN l a).draws else cmpI ((rowN l a).len * (rowN l b).draws) ((rowN l b).len * (rowN l a).draws)
set_option maxRecDepth 100000 in
set_option maxHeartbeats 4000000 in
theorem measures97 (T : Nat) (l : List Re) (a b : Nat) (w : World) (sb rb mb : Nat) (hst : StF T l w sb rb mb) (ha : a < T) (hb : b < T) (hl : l.length ≤ 300) (hv : ∀ x ∈ l, ReB x) : Calls Try.prog 97 #[.pointer (some ⟨sb, 0, none⟩), .int .i64 (a : Nat), .int .i64 (b : Nat)] w (Back (.int .i64 (msC l a b)) w) := by
 obtain ⟨hlen, ea, eb⟩ : a < (rowsS T (rowN l)).length ∧ (∀ h, (rowsS T (rowN l))[a]'h = rowN l a) ∧ (∀ h, (rowsS T (rowN l))[b]'h = rowN l b) := ⟨by rw [rowsS_len]; omega, fun h => rowsS_get h, fun h => rowsS_get h⟩
 have hlb : b < (rowsS T (rowN l)).length := by rw [rowsS_len]; omega
 have s0 := hst.s0
 have hrow := hst.row
 have y3 := rowN_bd l a hv
 have y4 := rowN_bd l b hv
 refine J_enter (fun _ => False) (vs := [.pointer (some ⟨sb, 0, none⟩), .int .i64 (a : Nat), .int .i64 (b : Nat)]) (k := 47) (l := [(0, .pointer (some ⟨sb, 0, none⟩)), (1, .int .i64 (a : Nat)), (2, .int .i64 (b : Nat))]) Try.func97 rfl rfl Try.ntmps97 rfl rfl (Wd.start _) ?_
 refine J_seq ?_
 refine J_reg ?_
 refine JN rfl rfl rfl rfl rfl ?_
 refine JL_nil ?_
 refine JQ_then_n ?_
 refine J_seq ?_
 refine J_drawX [] [3, 6, 10, 13] [] (by repeat constructor) (by kernel_rfl) ?_
 refine JAP (i := 0) rfl (rp_move rfl rfl) ?_
 refine JAP (i := 1) rfl (rp_nil rfl rfl) ?_
 refine JAP (i := 2) rfl (rp_fieldC (off' := 0) rfl rfl fa_117_0 rfl) ?_
 refine JAX (i := 3) rfl (rv_old rfl rfl ag_45 (fun h => h) s0) ?_
 refine JAP (i := 4) rfl (rp_move rfl rfl) ?_
 refine JAP (i := 5) rfl (rp2 rfl rfl (fun ρ hx hy w => ex_indexE rfl hx hy Try.underlying45 sz_58 (by omega))) ?_
 refine JAX (i := 6) rfl (rv_holdagg (E := EW) (cs := eW (rowN l a)) rfl rfl ag_58 sz_58 (fun h => h) hrow (by omega) (congrArg eW (ea _))) ?_
 refine JAP (i := 7) rfl (rp_move rfl rfl) ?_
 refine JAP (i := 8) rfl (rp_nil rfl rfl) ?_
 refine JAP (i := 9) rfl (rp_fieldC (off' := 0) rfl rfl fa_117_0 rfl) ?_
 refine JAX (i := 10) rfl (rv_old rfl rfl ag_45 (fun h => h) s0) ?_
 refine JAP (i := 11) rfl (rp_move rfl rfl) ?_
 refine JAP (i := 12) rfl (rp2 rfl rfl (fun ρ hx hy w => ex_indexE rfl hx hy Try.underlying45 sz_58 (by omega))) ?_
 refine JAX (i := 13) rfl (rv_holdagg (E := EW) (cs := eW (rowN l b)) rfl rfl ag_58 sz_58 (fun h => h) hrow (by omega) (congrArg eW (eb _))) ?_
 refine JA_two (i := 14) (j := 15) (by kernel_rfl) rfl rfl (wn0 rfl) (wn0 rfl) (ow_alloc rfl rfl zv_58 rfl rfl) (ow_alloc rfl rfl zv_58 rfl rfl) trivial trivial (fun b7 hb7 => ?_) (fun b8 hb8 => ?_)
 ·refine JA_one (i := 15) (by kernel_rfl) rfl (wn0 rfl) (ow_alloc rfl rfl zv_58 rfl rfl) trivial (fun b8 hb8 => ?_)
  refine JA_one (i := 16) (by kernel_rfl) rfl (wn0 rfl) (ow_store (cs := [_, _, _, _, _, _, _, _]) (vs' := [_, _, _, _, _, _, _, _]) rfl rfl rfl rfl rfl sz_58 rfl (by repeat constructor) (by rfl) (by rfl)) ⟨by kernel_rfl, .inr ⟨rfl, (by repeat constructor)⟩⟩ (fun _ _ => ?_)
  refine JA_one (i := 17) (by kernel_rfl) rfl (wn0 rfl) (ow_store (cs := [_, _, _, _, _, _, _, _]) (vs' := [_, _, _, _, _, _, _, _]) rfl rfl rfl rfl rfl sz_58 rfl (by repeat constructor) (by rfl) (by rfl)) ⟨by kernel_rfl, .inr ⟨rfl, (by repeat constructor)⟩⟩ (fun _ _ => ?_)
  refine JA_done (by kernel_rfl) ?_
  refine JQ_then_n ?_
  refine J_seq ?_
  refine J_block ?_
  refine J_seq ?_
  refine J_keep (l' := [(7, _), (8, _)]) ⟨rfl, rfl, trivial⟩ ?_
  refine J_reg ?_
  refine JP (rp_fieldC (off' := 6) rfl rfl fa_58_6 rfl) ?_
  refine JV (rv_cell rfl rfl ag_3 (by repeat constructor) (by rfl)) ?_
  refine JP (rp2 rfl rfl (fun ρ hx hy w => ex_eqlD rfl hx hy)) ?_
  refine JL_dec (fun h26 => ?_) (fun h26 => ?_)
  ·refine JM rfl rfl rfl rfl rfl ?_
   refine JF ?_
   refine JF ?_
   refine JF ?_
   refine JP (rp_pickT rfl rfl rfl) ?_
   refine JN rfl rfl rfl rfl rfl ?_
   refine JL_nil ?_
   refine JQ_then_n ?_
   refine J_yes rfl rfl ?_
   refine J_seq ?_
   refine J_keep (l' := [(7, _), (8, _)]) ⟨rfl, rfl, trivial⟩ ?_
   refine J_reg ?_
   refine JP (rp_fieldC (off' := 6) rfl rfl fa_58_6 rfl) ?_
   refine JV (rv_cell rfl rfl ag_3 (by repeat constructor) (by rfl)) ?_
   refine JP (rp2 rfl rfl (fun ρ hx hy w => ex_min rfl hx hy)) ?_
   refine JP (rp_fieldC (off' := 6) rfl rfl fa_58_6 rfl) ?_
   refine JV (rv_cell rfl rfl ag_3 (by repeat constructor) (by rfl)) ?_
   refine JP (rp2 rfl rfl (fun ρ hx hy w => ex_min rfl hx hy)) ?_
   refine JP (rp2 rfl rfl (fun ρ hx hy w => ex_sub rfl hx hy (by omega))) ?_
   refine JN rfl rfl rfl rfl rfl ?_
   refine JL_nil ?_
   refine JQ_then_n ?_
   refine J_ret ?_
   refine JQ_block_r ?_
   refine JQ_then_r ?_
   refine JR_one rfl (rr_tmp rfl) ?_
   intro w' hw
   exact ⟨by unfold msC; rw [if_pos (by omega)], hw.bel⟩
  ·refine JM rfl rfl rfl rfl rfl ?_
   refine JPg (rp_fieldC (off' := 6) rfl rfl fa_58_6 rfl) ?_
   refine JVg (rv_cell rfl rfl ag_3 (by repeat constructor) (by rfl)) ?_
   refine JPg (rp2 rfl rfl (fun ρ hx hy w => ex_eqlD rfl hx hy)) ?_
   refine JL_dec (fun h30 => ?_) (fun h30 => ?_)
   ·refine JP (rp_pickF rfl rfl rfl) ?_
    refine JN rfl rfl rfl rfl rfl ?_
    refine JL_nil ?_
    refine JQ_then_n ?_
    refine J_yes rfl rfl ?_
    refine J_seq ?_
    refine J_keep (l' := [(7, _), (8, _)]) ⟨rfl, rfl, trivial⟩ ?_
    refine J_reg ?_
    refine JP (rp_fieldC (off' := 6) rfl rfl fa_58_6 rfl) ?_
    refine JV (rv_cell rfl rfl ag_3 (by repeat constructor) (by rfl)) ?_
    refine JP (rp2 rfl rfl (fun ρ hx hy w => ex_min rfl hx hy)) ?_
    refine JP (rp_fieldC (off' := 6) rfl rfl fa_58_6 rfl) ?_
    refine JV (rv_cell rfl rfl ag_3 (by repeat constructor) (by rfl)) ?_
    refine JP (rp2 rfl rfl (fun ρ hx hy w => ex_min rfl hx hy)) ?_
    refine JP (rp2 rfl rfl (fun ρ hx hy w => ex_sub rfl hx hy (by omega))) ?_
    refine JN rfl rfl rfl rfl rfl ?_
    refine JL_nil ?_
    refine JQ_then_n ?_
    refine J_ret ?_
    refine JQ_block_r ?_
    refine JQ_then_r ?_
    refine JR_one rfl (rr_tmp rfl) ?_
    intro w' hw
    exact ⟨by unfold msC; rw [if_pos (by omega)], hw.bel⟩
   ·refine JP (rp_pickF rfl rfl rfl) ?_
    refine JN rfl rfl rfl rfl rfl ?_
    refine JL_nil ?_
    refine JQ_then_n ?_
    refine J_no rfl rfl ?_
    refine J_skip ?_
    refine JQ_block_n ?_
    refine JQ_then_n ?_
    refine J_seq ?_
    have y1 : 0 ≤ (rowN l a).len * (rowN l b).draws ∧ (rowN l a).len * (rowN l b).draws ≤ 60000000 * 600 := ⟨Int.mul_nonneg (by omega) (by omega), Int.mul_le_mul (by omega) (by omega) (by omega) (by omega)⟩
    have y2 : 0 ≤ (rowN l b).len * (rowN l a).draws ∧ (rowN l b).len * (rowN l a).draws ≤ 60000000 * 600 := ⟨Int.mul_nonneg (by omega) (by omega), Int.mul_le_mul (by omega) (by omega) (by omega) (by omega)⟩
    refine J_keep (l' := [(7, _), (8, _)]) ⟨rfl, rfl, trivial⟩ ?_
    refine J_reg ?_
    refine JP (rp_fieldC (off' := 7) rfl rfl fa_58_7 rfl) ?_
    refine JV (rv_cell rfl rfl ag_3 (by repeat constructor) (by rfl)) ?_
    refine JP (rp_fieldC (off' := 6) rfl rfl fa_58_6 rfl) ?_
    refine JV (rv_cell rfl rfl ag_3 (by repeat constructor) (by rfl)) ?_
    refine JP (rp2 rfl rfl (fun ρ hx hy w => ex_mul rfl hx hy (by omega))) ?_
    refine JP (rp_fieldC (off' := 7) rfl rfl fa_58_7 rfl) ?_
    refine JV (rv_cell rfl rfl ag_3 (by repeat constructor) (by rfl)) ?_
    refine JP (rp_fieldC (off' := 6) rfl rfl fa_58_6 rfl) ?_
    refine JV (rv_cell rfl rfl ag_3 (by repeat constructor) (by rfl)) ?_
    refine JP (rp2 rfl rfl (fun ρ hx hy w => ex_mul rfl hx hy (by omega))) ?_
    refine JL_op (wn0 rfl) (ow_callB (ec_fn rfl rfl cf_104) rfl rfl (fun w hw => Compare104 _ _ w)) (fun _ _ => ?_)
    refine JN rfl rfl rfl rfl rfl ?_
    refine JL_nil ?_
    refine JQ_then_n ?_
    refine J_ret ?_
    refine JR_one rfl (rr_tmp rfl) ?_
    intro w' hw
    exact ⟨by unfold msC; rw [if_neg (by omega)], hw.bel⟩
 ·refine JA_one (i := 14) (by kernel_rfl) rfl (wn0 rfl) (ow_alloc rfl rfl zv_58 rfl rfl) trivial (fun b7 hb7 => ?_)
  refine JA_one (i := 16) (by kernel_rfl) rfl (wn0 rfl) (ow_store (cs := [_, _, _, _, _, _, _, _]) (vs' := [_, _, _, _, _, _, _, _]) rfl rfl rfl rfl rfl sz_58 rfl (by repeat constructor) (by rfl) (by rfl)) ⟨by kernel_rfl, .inr ⟨rfl, (by repeat constructor)⟩⟩ (fun _ _ => ?_)
  refine JA_one (i := 17) (by kernel_rfl) rfl (wn0 rfl) (ow_store (cs := [_, _, _, _, _, _, _, _]) (vs' := [_, _, _, _, _, _, _, _]) rfl rfl rfl rfl rfl sz_58 rfl (by repeat constructor) (by rfl) (by rfl)) ⟨by kernel_rfl, .inr ⟨rfl, (by repeat constructor)⟩⟩ (fun _ _ => ?_)
  refine JA_done (by kernel_rfl) ?_
  refine JQ_then_n ?_
  refine J_seq ?_
  refine J_block ?_
  refine J_seq ?_
  refine J_keep (l' := [(7, _), (8, _)]) ⟨rfl, rfl, trivial⟩ ?_
  refine J_reg ?_
  refine JP (rp_fieldC (off' := 6) rfl rfl fa_58_6 rfl) ?_
  refine JV (rv_cell rfl rfl ag_3 (by repeat constructor) (by rfl)) ?_
  refine JP (rp2 rfl rfl (fun ρ hx hy w => ex_eqlD rfl hx hy)) ?_
  refine JL_dec (fun h26 => ?_) (fun h26 => ?_)
  ·refine JM rfl rfl rfl rfl rfl ?_
   refine JF ?_
   refine JF ?_
   refine JF ?_
   refine JP (rp_pickT rfl rfl rfl) ?_
   refine JN rfl rfl rfl rfl rfl ?_
   refine JL_nil ?_
   refine JQ_then_n ?_
   refine J_yes rfl rfl ?_
   refine J_seq ?_
   refine J_keep (l' := [(7, _), (8, _)]) ⟨rfl, rfl, trivial⟩ ?_
   refine J_reg ?_
   refine JP (rp_fieldC (off' := 6) rfl rfl fa_58_6 rfl) ?_
   refine JV (rv_cell rfl rfl ag_3 (by repeat constructor) (by rfl)) ?_
   refine JP (rp2 rfl rfl (fun ρ hx hy w => ex_min rfl hx hy)) ?_
   refine JP (rp_fieldC (off' := 6) rfl rfl fa_58_6 rfl) ?_
   refine JV (rv_cell rfl rfl ag_3 (by repeat constructor) (by rfl)) ?_
   refine JP (rp2 rfl rfl (fun ρ hx hy w => ex_min rfl hx hy)) ?_
   refine JP (rp2 rfl rfl (fun ρ hx hy w => ex_sub rfl hx hy (by omega))) ?_
   refine JN rfl rfl rfl rfl rfl ?_
   refine JL_nil ?_
   refine JQ_then_n ?_
   refine J_ret ?_
   refine JQ_block_r ?_
   refine JQ_then_r ?_
   refine JR_one rfl (rr_tmp rfl) ?_
   intro w' hw
   exact ⟨by unfold msC; rw [if_pos (by omega)], hw.bel⟩
  ·refine JM rfl rfl rfl rfl rfl ?_
   refine JPg (rp_fieldC (off' := 6) rfl rfl fa_58_6 rfl) ?_
   refine JVg (rv_cell rfl rfl ag_3 (by repeat constructor) (by rfl)) ?_
   refine JPg (rp2 rfl rfl (fun ρ hx hy w => ex_eqlD rfl hx hy)) ?_
   refine JL_dec (fun h30 => ?_) (fun h30 => ?_)
   ·refine JP (rp_pickF rfl rfl rfl) ?_
    refine JN rfl rfl rfl rfl rfl ?_
    refine JL_nil ?_
    refine JQ_then_n ?_
    refine J_yes rfl rfl ?_
    refine J_seq ?_
    refine J_keep (l' := [(7, _), (8, _)]) ⟨rfl, rfl, trivial⟩ ?_
    refine J_reg ?_
    refine JP (rp_fieldC (off' := 6) rfl rfl fa_58_6 rfl) ?_
    refine JV (rv_cell rfl rfl ag_3 (by repeat constructor) (by rfl)) ?_
    refine JP (rp2 rfl rfl (fun ρ hx hy w => ex_min rfl hx hy)) ?_
    refine JP (rp_fieldC (off' := 6) rfl rfl fa_58_6 rfl) ?_
    refine JV (rv_cell rfl rfl ag_3 (by repeat constructor) (by rfl)) ?_
    refine JP (rp2 rfl rfl (fun ρ hx hy w => ex_min rfl hx hy)) ?_
    refine JP (rp2 rfl rfl (fun ρ hx hy w => ex_sub rfl hx hy (by omega))) ?_
    refine JN rfl rfl rfl rfl rfl ?_
    refine JL_nil ?_
    refine JQ_then_n ?_
    refine J_ret ?_
    refine JQ_block_r ?_
    refine JQ_then_r ?_
    refine JR_one rfl (rr_tmp rfl) ?_
    intro w' hw
    exact ⟨by unfold msC; rw [if_pos (by omega)], hw.bel⟩
   ·refine JP (rp_pickF rfl rfl rfl) ?_
    refine JN rfl rfl rfl rfl rfl ?_
    refine JL_nil ?_
    refine JQ_then_n ?_
    refine J_no rfl rfl ?_
    refine J_skip ?_
    refine JQ_block_n ?_
    refine JQ_then_n ?_
    refine J_seq ?_
    have y1 : 0 ≤ (rowN l a).len * (rowN l b).draws ∧ (rowN l a).len * (rowN l b).draws ≤ 60000000 * 600 := ⟨Int.mul_nonneg (by omega) (by omega), Int.mul_le_mul (by omega) (by omega) (by omega) (by omega)⟩
    have y2 : 0 ≤ (rowN l b).len * (rowN l a).draws ∧ (rowN l b).len * (rowN l a).draws ≤ 60000000 * 600 := ⟨Int.mul_nonneg (by omega) (by omega), Int.mul_le_mul (by omega) (by omega) (by omega) (by omega)⟩
    refine J_keep (l' := [(7, _), (8, _)]) ⟨rfl, rfl, trivial⟩ ?_
    refine J_reg ?_
    refine JP (rp_fieldC (off' := 7) rfl rfl fa_58_7 rfl) ?_
    refine JV (rv_cell rfl rfl ag_3 (by repeat constructor) (by rfl)) ?_
    refine JP (rp_fieldC (off' := 6) rfl rfl fa_58_6 rfl) ?_
    refine JV (rv_cell rfl rfl ag_3 (by repeat constructor) (by rfl)) ?_
    refine JP (rp2 rfl rfl (fun ρ hx hy w => ex_mul rfl hx hy (by omega))) ?_
    refine JP (rp_fieldC (off' := 7) rfl rfl fa_58_7 rfl) ?_
    refine JV (rv_cell rfl rfl ag_3 (by repeat constructor) (by rfl)) ?_
    refine JP (rp_fieldC (off' := 6) rfl rfl fa_58_6 rfl) ?_
    refine JV (rv_cell rfl rfl ag_3 (by repeat constructor) (by rfl)) ?_
    refine JP (rp2 rfl rfl (fun ρ hx hy w => ex_mul rfl hx hy (by omega))) ?_
    refine JL_op (wn0 rfl) (ow_callB (ec_fn rfl rfl cf_104) rfl rfl (fun w hw => Compare104 _ _ w)) (fun _ _ => ?_)
    refine JN rfl rfl rfl rfl rfl ?_
    refine JL_nil ?_
    refine JQ_then_n ?_
    refine J_ret ?_
    refine JR_one rfl (rr_tmp rfl) ?_
    intro w' hw
    exact ⟨by unfold msC; rw [if_neg (by omega)], hw.bel⟩
set_option maxRecDepth 100000 in
set_option maxHeartbeats 4000000 in
theorem order87 (T : Nat) (l : List Re) (a b : Nat) (w : World) (cb sb rb mb : Nat) (hc : w.cell? ⟨cb, 0, none⟩ = some (.pointer (some ⟨sb, 0, none⟩))) (hst : StF T l w sb rb mb) (ha : a < T) (hb : b < T) (hl : l.length ≤ 300) (hv : ∀ x ∈ l, ReB x) : Calls Try.prog 87 #[.int .i64 (a : Nat), .int .i64 (b : Nat), .pointer (some ⟨cb, 0, none⟩)] w (Back (.int .i64 ((rowN l b).wins - (rowN l a).wins)) w) := by
 obtain ⟨hlen, ea, eb⟩ : a < (rowsS T (rowN l)).length ∧ (∀ h, (rowsS T (rowN l))[a]'h = rowN l a) ∧ (∀ h, (rowsS T (rowN l))[b]'h = rowN l b) := ⟨by rw [rowsS_len]; omega, fun h => rowsS_get h, fun h => rowsS_get h⟩
 have hlb : b < (rowsS T (rowN l)).length := by rw [rowsS_len]; omega
 have s0 := hst.s0
 have hrow := hst.row
 have y3 := rowN_bd l a hv
 have y4 := rowN_bd l b hv
 refine J_enter (fun _ => False) (vs := [.int .i64 (a : Nat), .int .i64 (b : Nat), .pointer (some ⟨cb, 0, none⟩)]) (k := 20) (l := [(0, .int .i64 (a : Nat)), (1, .int .i64 (b : Nat)), (2, .pointer (some ⟨cb, 0, none⟩))]) Try.func87 rfl rfl Try.ntmps87 rfl rfl (Wd.start _) ?_
 refine J_seq ?_
 refine J_reg ?_
 refine JN rfl rfl rfl rfl rfl ?_
 refine JL_nil ?_
 refine JQ_then_n ?_
 refine J_seq ?_
 refine J_draw [0, 3, 7, 8, 11, 15] (by kernel_rfl) ?_
 refine JAL (i := 0) rfl (rv_old rfl rfl ag_111 (fun h => h) hc) ?_
 refine JAP (i := 1) rfl (rp_nil rfl rfl) ?_
 refine JAP (i := 2) rfl (rp_fieldC (off' := 0) rfl rfl fa_117_0 rfl) ?_
 refine JAL (i := 3) rfl (rv_old rfl rfl ag_45 (fun h => h) s0) ?_
 refine JAP (i := 4) rfl (rp_move rfl rfl) ?_
 refine JAP (i := 5) rfl (rp2 rfl rfl (fun ρ hx hy w => ex_indexE rfl hx hy Try.underlying45 sz_58 (by omega))) ?_
 refine JAP (i := 6) rfl (rp_fieldE (i' := 3) rfl rfl fa_58_3 rfl) ?_
 refine JAL (i := 7) rfl (rv_hold (i := 3) rfl rfl ag_3 (fun h => h) hrow (by omega) (by omega) (by rw [eb]; rfl)) ?_
 refine JAL (i := 8) rfl (rv_old rfl rfl ag_111 (fun h => h) hc) ?_
 refine JAP (i := 9) rfl (rp_nil rfl rfl) ?_
 refine JAP (i := 10) rfl (rp_fieldC (off' := 0) rfl rfl fa_117_0 rfl) ?_
 refine JAL (i := 11) rfl (rv_old rfl rfl ag_45 (fun h => h) s0) ?_
 refine JAP (i := 12) rfl (rp_move rfl rfl) ?_
 refine JAP (i := 13) rfl (rp2 rfl rfl (fun ρ hx hy w => ex_indexE rfl hx hy Try.underlying45 sz_58 (by omega))) ?_
 refine JAP (i := 14) rfl (rp_fieldE (i' := 3) rfl rfl fa_58_3 rfl) ?_
 refine JAL (i := 15) rfl (rv_hold (i := 3) rfl rfl ag_3 (fun h => h) hrow (by omega) (by omega) (by rw [ea]; rfl)) ?_
 refine JAP (i := 16) rfl (rp2 rfl rfl (fun ρ hx hy w => ex_sub rfl hx hy (by omega))) ?_
 refine JAP (i := 17) rfl (rp_assign rfl rfl) ?_
 refine JA_done (by kernel_rfl) ?_
 refine JQ_then_n ?_
 refine J_ret ?_
 refine JR_one rfl (rr_tmp rfl) ?_
 intro w' hw
 exact ⟨rfl, hw.bel⟩
/-- The first place where p holds, from n on; or -1. -/
def ixF {α : Type} (p : α → Bool) : List α → Int → Int
 | [], _ => -1
 | x :: l, n => if p x then n else ixF p l (n + 1)
theorem ixF_any {α : Type} (p : α → Bool) : ∀ (l : List α) (n : Int), 0 ≤ n → (0 ≤ ixF p l n ↔ l.any p = true)
 | [], n, h => by simp [ixF]
 | x :: l, n, h => by
  unfold ixF
  cases hp : p x
  ·simp [hp, ixF_any p l (n + 1) (by omega)]
  ·simp [hp, h]
theorem ixF_bd {α : Type} (p : α → Bool) : ∀ (l : List α) (n : Int), 0 ≤ n → -1 ≤ ixF p l n ∧ ixF p l n ≤ n + l.length
 | [], n, h => by simp [ixF]; omega
 | x :: l, n, h => by
  unfold ixF
  have := ixF_bd p l (n + 1) (by omega)
  rw [List.length_cons]
  split <;> omega
/-- The contract of a function value that tells something of an int. -/
def PrC (f : FuncId) (first caps : Array Value) (p : Int → Bool) (l : List Int) (w0 : World) : Prop := ∀ x ∈ l, ∀ W, Below w0.heap.size w0 W → Calls Try.prog f (first ++ #[.int .i64 x] ++ caps) W (Back (.bool (p x)) W)
set_option maxRecDepth 100000 in
set_option maxHeartbeats 4000000 in
theorem IndexFunc80 (f : FuncId) (first caps : Array Value) (p : Int → Bool) (l : List Int) (v : Value) (w : World) (hf : ∀ args w, (callFunc f args).run Try.prog w = .ok (.enter f args) w) (hcl : PrC f first caps p l w) (hrow : Arr 1 eI w v l) (hl : l.length ≤ 1000) : Calls Try.prog 80 #[v, .func (.func f) first caps] w (Back (.int .i64 (ixF p l 0)) w) := by
 obtain ⟨A, cap, rfl, -, -, hA⟩ := hrow
 refine J_enter (fun _ => False) (vs := [.slice A l.length cap, .func (.func f) first caps]) (k := 17) (l := [(0, .slice A l.length cap), (1, .func (.func f) first caps)]) Try.func80 rfl rfl Try.ntmps80 rfl rfl (Wd.start _) ?_
 refine J_seq ?_
 refine J_reg ?_
 refine JN rfl rfl rfl rfl rfl ?_
 refine JL_nil ?_
 refine JQ_then_n ?_
 refine J_seq ?_
 refine J_seq ?_
 refine J_reg ?_
 refine JM rfl rfl rfl rfl rfl ?_
 refine JP (rp1 rfl (fun ρ hx w => ex_len (A := _) (c := _) rfl Try.underlying26 hx)) ?_
 refine JM rfl rfl rfl rfl rfl ?_
 refine JL_nil ?_
 refine JQ_then_n ?_
 refine J_block ?_
 refine J_loop (T := Nat) (fun k => k ≤ l.length ∧ ixF p (l.drop k) k = ixF p l 0) (fun k => [(0, .slice A l.length cap), (1, .func (.func f) first caps), (7, .int .i64 (l.length : Nat)), (8, .int .i64 (k : Nat))]) (fun k => []) (fun k => l.length - k) 0 ⟨Nat.zero_le _, rfl⟩ ⟨rfl, rfl, rfl, rfl, trivial⟩ (by repeat constructor) ?_
 rintro k ⟨hk, he⟩
 refine J_seq ?_
 refine J_reg ?_
 refine JP (rp2 rfl rfl (fun ρ hx hy w => ex_lssD rfl hx hy)) ?_
 refine JL_dec (fun h9 => ?_) (fun h9 => ?_)
 ·refine JL_nil ?_
  refine JQ_then_n ?_
  refine J_seq ?_
  refine J_yes rfl rfl ?_
  refine J_skip ?_
  refine JQ_then_n ?_
  refine J_seq ?_
  refine J_block ?_
  refine J_seq ?_
  have hlt : k < l.length := by omega
  obtain ⟨b, q0, rfl, hh⟩ := hA (by intro e; subst e; simp at hlt)
  have hd : l.drop k = l[k]'hlt :: l.drop (k + 1) := List.drop_eq_getElem_cons hlt
  cases hp : p (l[k]'hlt)
  ·refine J_reg ?_
   refine JM rfl rfl rfl rfl rfl ?_
   refine JN rfl rfl rfl rfl rfl ?_
   refine JL_nil ?_
   refine JQ_then_n ?_
   refine J_seq ?_
   refine J_reg ?_
   refine JM rfl rfl rfl rfl rfl ?_
   refine JM rfl rfl rfl rfl rfl ?_
   refine JM rfl rfl rfl rfl rfl ?_
   refine JP (rp2 rfl rfl (fun ρ hx hy w => ex_indexE rfl hx hy Try.underlying26 sz_3 (by omega))) ?_
   refine JV (rv_hold rfl rfl ag_3 (fun h => h) hh (by omega) (by omega) rfl) ?_
   refine JL_op (wn0 rfl) (ow_callB (ec_val rfl rfl rfl hf) rfl rfl (fun w hw => (by have := hcl _ (List.getElem_mem hlt) w hw.bel; rw [hp] at this; exact this))) (fun _ _ => ?_)
   refine JL_nil ?_
   refine JQ_then_n ?_
   refine J_no rfl rfl ?_
   refine J_skip ?_
   refine JQ_block_n ?_
   refine JQ_then_n ?_
   refine J_keep (l' := [(0, _), (1, _), (7, _), (8, _)]) ⟨rfl, rfl, rfl, rfl, trivial⟩ ?_
   refine J_reg ?_
   refine JP (rp2 rfl rfl (fun ρ hx hy w => ex_add rfl hx hy (by omega))) ?_
   refine JM rfl rfl rfl rfl rfl ?_
   refine JL_nil ?_
   exact JQ_round (k + 1) ⟨by omega, by rw [← he, hd, ixF, hp]; rfl⟩ (by omega) ⟨rfl, rfl, rfl, (congrArg some (by go_num)), trivial⟩ (by repeat constructor)
  ·refine J_reg ?_
   refine JM rfl rfl rfl rfl rfl ?_
   refine JN rfl rfl rfl rfl rfl ?_
   refine JL_nil ?_
   refine JQ_then_n ?_
   refine J_seq ?_
   refine J_reg ?_
   refine JM rfl rfl rfl rfl rfl ?_
   refine JM rfl rfl rfl rfl rfl ?_
   refine JM rfl rfl rfl rfl rfl ?_
   refine JP (rp2 rfl rfl (fun ρ hx hy w => ex_indexE rfl hx hy Try.underlying26 sz_3 (by omega))) ?_
   refine JV (rv_hold rfl rfl ag_3 (fun h => h) hh (by omega) (by omega) rfl) ?_
   refine JL_op (wn0 rfl) (ow_callB (ec_val rfl rfl rfl hf) rfl rfl (fun w hw => (by have := hcl _ (List.getElem_mem hlt) w hw.bel; rw [hp] at this; exact this))) (fun _ _ => ?_)
   refine JL_nil ?_
   refine JQ_then_n ?_
   refine J_yes rfl rfl ?_
   refine J_seq ?_
   refine J_keep (l' := [(5, _)]) ⟨rfl, trivial⟩ ?_
   refine J_reg ?_
   refine JM rfl rfl rfl rfl rfl ?_
   refine JN rfl rfl rfl rfl rfl ?_
   refine JL_nil ?_
   refine JQ_then_n ?_
   refine J_ret ?_
   refine JQ_block_r ?_
   refine JQ_then_r ?_
   refine JQ_then_r ?_
   refine JQ_block_r ?_
   refine JQ_then_r ?_
   refine JR_one rfl (rr_tmp rfl) ?_
   intro w' hw
   exact ⟨by rw [← he, hd, ixF, hp]; rfl, hw.bel⟩
 ·refine JL_nil ?_
  refine JQ_then_n ?_
  refine J_seq ?_
  refine J_no rfl rfl ?_
  refine J_exit ?_
  refine JQ_then_x ?_
  refine JQ_then_x ?_
  refine JQ_block_y rfl ?_
  refine JQ_then_n ?_
  refine J_seq ?_
  refine J_keep (l' := []) trivial ?_
  refine J_reg ?_
  refine JN rfl rfl rfl rfl rfl ?_
  refine JL_nil ?_
  refine JQ_then_n ?_
  refine J_ret ?_
  refine JR_one rfl (rr_tmp rfl) ?_
  intro w' hw
  have e : ixF p l 0 = -1 := by rw [← he, List.drop_of_length_le (by omega)]; rfl
  exact ⟨by rw [e], hw.bel⟩
set_option maxRecDepth 100000 in
set_option maxHeartbeats 4000000 in
theorem ContainsFunc48 (f : FuncId) (first caps : Array Value) (p : Int → Bool) (l : List Int) (v : Value) (w : World) (hf : ∀ args w, (callFunc f args).run Try.prog w = .ok (.enter f args) w) (hcl : PrC f first caps p l w) (hrow : Arr 1 eI w v l) (hl : l.length ≤ 1000) : Calls Try.prog 48 #[v, .func (.func f) first caps] w (Back (.bool (l.any p)) w) := by
 obtain ⟨A, cap, rfl⟩ := hrow.form
 refine J_enter (fun _ => False) (vs := [.slice A l.length cap, .func (.func f) first caps]) (k := 7) (l := [(0, .slice A l.length cap), (1, .func (.func f) first caps)]) Try.func48 rfl rfl Try.ntmps48 rfl rfl (Wd.start _) ?_
 refine J_seq ?_
 refine J_reg ?_
 refine JN rfl rfl rfl rfl rfl ?_
 refine JL_nil ?_
 refine JQ_then_n ?_
 refine J_seq ?_
 refine J_reg ?_
 refine JM rfl rfl rfl rfl rfl ?_
 refine JM rfl rfl rfl rfl rfl ?_
 refine JL_op (wn0 rfl) (ow_callB (ec_fn rfl rfl cf_80) rfl rfl (fun w hw => IndexFunc80 f first caps p l _ w hf (fun x hx W hW => hcl x hx W (hw.bel.trans (hW.mono hw.bel.size))) (hrow.up EI hw.bel) hl)) (fun _ _ => ?_)
 refine JP (rp2 rfl rfl (fun ρ hx hy w => ex_geqD rfl hx hy)) ?_
 refine JN rfl rfl rfl rfl rfl ?_
 refine JL_nil ?_
 refine JQ_then_n ?_
 refine J_ret ?_
 refine JR_one rfl (rr_tmp rfl) ?_
 intro w' hw
 have e : decide ((0 : Int) ≤ ixF p l 0) = l.any p := by
  have := ixF_any p l 0 (Int.le_refl _)
  cases h : l.any p with
  | true => exact decide_eq_true (this.2 h)
  | false => exact decide_eq_false (fun h' => by rw [this.1 h'] at h; cases h)
 exact ⟨by rw [e], hw.bel⟩
end Go.Proofs.Ytlfbbofcnonhdaa

/- Contracts: meetings. -/
namespace Go.Proofs.Ytlfbbofcnonhdaa
open Go Go.RowKit Go.Proofs

/-- The meetings of teams: the wins by teams, and whether all have met; W: who has won. -/
def stepM (W : Int × Int → Option Int) (a : Int) (s : (Int → Option Int) × Bool) (b : Int) : (Int → Option Int) × Bool :=
 match W (min a b, max a b) with
 | some v => (upd s.1 v ((s.1 v).getD 0 + 1), s.2)
 | none => (s.1, false)
def mtJ (W : Int × Int → Option Int) (g : List Int) (k j : Nat) (s : (Int → Option Int) × Bool) : (Int → Option Int) × Bool := (g.take j).foldl (stepM W (g.getD k 0)) s
def mtA (W : Int × Int → Option Int) (g : List Int) : Nat → (Int → Option Int) × Bool
 | 0 => (fun _ => none, true)
 | k + 1 => mtJ W g k k (mtA W g k)
theorem mtJ_succ (W : Int × Int → Option Int) (g : List Int) (k j : Nat) (s : (Int → Option Int) × Bool) (h : j < g.length) : mtJ W g k (j + 1) s = stepM W (g.getD k 0) (mtJ W g k j s) (g[j]'h) := by
 unfold mtJ; rw [List.take_succ_eq_append_getElem h, List.foldl_append]; rfl
theorem wonM_in {T : Int} {l : List Re} (h : ∀ x ∈ l, vldB T x = true) : ∀ y v, wonM l y = some v → 0 ≤ v ∧ v ≤ T - 1 := by
 have : ∀ (l : List Re) (m : Int × Int → Option Int), (∀ x ∈ l, vldB T x = true) → (∀ y v, m y = some v → 0 ≤ v ∧ v ≤ T - 1) → ∀ y v, l.foldl (fun m x => addW 2 x m) m y = some v → 0 ≤ v ∧ v ≤ T - 1 := by
  intro l
  induction l with
  | nil => intro m _ hm; exact hm
  | cons x l ih =>
   intro m hx hm
   refine ih _ (fun y hy => hx y (by simp [hy])) ?_
   obtain ⟨-, h1, h2, -, -⟩ := vld_b (hx x (by simp))
   have hu : ∀ (m : Int × Int → Option Int) (k : Int × Int) (t : Int), (0 ≤ t ∧ t ≤ T - 1) → (∀ y v, m y = some v → 0 ≤ v ∧ v ≤ T - 1) → ∀ y v, upd m k t y = some v → 0 ≤ v ∧ v ≤ T - 1 := by
    intro m k t ht hm y v h
    unfold upd at h
    split at h
    ·injection h with h; omega
    ·exact hm y v h
   have h0 : ∀ y v, addW 1 x m y = some v → 0 ≤ v ∧ v ≤ T - 1 := by
    unfold addW
    split
    ·exact hu _ _ _ h1 hm
    ·exact hm
   show ∀ y v, addW 2 x m y = some v → _
   unfold addW
   split
   ·exact hu _ _ _ h2 h0
   ·exact h0
 exact this l _ h (fun y v h => by cases h)
set_option maxRecDepth 100000 in
set_option maxHeartbeats 4000000 in
theorem meetings96 (T : Nat) (l : List Re) (g : List Int) (v : Value) (w : World) (sb rb mb : Nat) (hst : StF T l w sb rb mb) (hrow : Arr 1 eI w v g) (hT : T ≤ 16) (hgl : g.length ≤ 20) (hgw : ∀ x ∈ g, 0 ≤ x ∧ x ≤ 1000) (hv : ∀ x ∈ l, vldB T x = true) : Calls Try.prog 96 #[.pointer (some ⟨sb, 0, none⟩), v] w (Ret w (fun t : Nat × Nat × Nat × Nat × Nat => t.2.2.2.1 ≤ 400) (fun t => .agg #[.func (.func 101) #[] #[.pointer (some ⟨t.2.1, 0, none⟩), .pointer (some ⟨t.1, 0, none⟩)], .func (.func 103) #[] #[.pointer (some ⟨t.1, 0, none⟩)]]) (fun t => [cellB t.1 [.map (some t.2.2.1)] 66, cellB t.2.1 [.bool (mtA (wonM l) g g.length).2] 4, mapB 3 3 kI W64 dI t.2.2.1 t.2.2.2.1 t.2.2.2.2 (mtA (wonM l) g g.length).1])) := by
 obtain ⟨A, cap, rfl, hcp, -, hA⟩ := hrow
 refine J_enter (fun _ => False) (vs := [.pointer (some ⟨sb, 0, none⟩), .slice A g.length cap]) (k := 52) (l := [(0, .pointer (some ⟨sb, 0, none⟩)), (1, .slice A g.length cap)]) Try.func96 rfl rfl Try.ntmps96 rfl rfl (Wd.start _) ?_
 refine J_seq ?_
 refine J_reg ?_
 refine JL_op (wn0 rfl) (ow_alloc rfl rfl zv_146 rfl rfl) (fun b4 hb4 => ?_)
 refine JL_nil ?_
 refine JQ_then_n ?_
 refine J_seq ?_
 refine J_reg ?_
 refine JL_op (wn0 rfl) (ow_makeMap (kt := 3) (e := 3) (kv := kI) (ok := W64) (ed := dI) rfl rfl rfl (fun _ => by kernel_rfl)) (fun b13 hb13 => ?_)
 refine JL_op (wn0 rfl) (ow_alloc rfl rfl zv_66 rfl rfl) (fun b5 hb5 => ?_)
 refine JL_op (wn0 rfl) (ow_store (cs := [_]) (vs' := [_]) rfl rfl rfl rfl rfl sz_66 rfl (by repeat constructor) (by rfl) (by rfl)) (fun _ _ => ?_)
 refine JL_nil ?_
 refine JQ_then_n ?_
 refine J_seq ?_
 refine J_reg ?_
 refine JL_op (wn0 rfl) (ow_alloc rfl rfl zv_4 rfl rfl) (fun b6 hb6 => ?_)
 refine JL_op (wn0 rfl) (ow_store (cs := [_]) (vs' := [_]) rfl rfl rfl rfl rfl sz_4 rfl (by repeat constructor) (by rfl) (by rfl)) (fun _ _ => ?_)
 refine JL_nil ?_
 refine JQ_then_n ?_
 refine J_seq ?_
 refine J_seq ?_
 refine J_reg ?_
 refine JM rfl rfl rfl rfl rfl ?_
 refine JP (rp1 rfl (fun ρ hx w => ex_len (A := _) (c := _) rfl Try.underlying26 hx)) ?_
 refine JM rfl rfl rfl rfl rfl ?_
 refine JL_nil ?_
 refine JQ_then_n ?_
 refine J_block ?_
 refine J_loop (T := Nat × Nat × Nat) (fun q => q.1 ≤ g.length ∧ q.2.1 ≤ 20 * q.1 ∧ (∀ x, 0 ≤ ((mtA (wonM l) g q.1).1 x).getD 0 ∧ ((mtA (wonM l) g q.1).1 x).getD 0 ≤ 20 * (q.1 : Int))) (fun q => [(0, .pointer (some ⟨sb, 0, none⟩)), (4, .pointer (some ⟨b4, 0, none⟩)), (5, .pointer (some ⟨b5, 0, none⟩)), (6, .pointer (some ⟨b6, 0, none⟩)), (1, .slice A g.length cap), (14, .slice A g.length cap), (15, .int .i64 (g.length : Nat)), (16, .int .i64 (q.1 : Nat))]) (fun q => [cellB b6 [.bool (mtA (wonM l) g q.1).2] 4, cellB b5 [.map (some b13)] 66, mapB 3 3 kI W64 dI b13 q.2.1 q.2.2 (mtA (wonM l) g q.1).1, cellB b4 [.nilFunc, .nilFunc] 146]) (fun q => g.length - q.1) (0, 0, 0) ⟨Nat.zero_le _, Nat.le_refl _, fun x => by simp [mtA]⟩ ⟨rfl, rfl, rfl, rfl, rfl, rfl, rfl, rfl, trivial⟩ (by repeat constructor) ?_
 rintro ⟨k, N, c⟩ ⟨hk, hN, hbd⟩
 dsimp only at hk hN hbd ⊢
 refine J_seq ?_
 refine J_reg ?_
 refine JP (rp2 rfl rfl (fun ρ hx hy w => ex_lssD rfl hx hy)) ?_
 refine JL_dec (fun h17 => ?_) (fun h17 => ?_)
 ·refine JL_nil ?_
  refine JQ_then_n ?_
  refine J_seq ?_
  refine J_yes rfl rfl ?_
  refine J_skip ?_
  refine JQ_then_n ?_
  refine J_seq ?_
  refine J_block ?_
  refine J_seq ?_
  have hlt : k < g.length := by omega
  obtain ⟨b, p, rfl, hh⟩ := hA (by intro e; subst e; simp at hlt)
  refine J_reg ?_
  refine JM rfl rfl rfl rfl rfl ?_
  refine JP (rp2 rfl rfl (fun ρ hx hy w => ex_indexE rfl hx hy Try.underlying26 sz_3 (by omega))) ?_
  refine JV (rv_hold rfl rfl ag_3 (fun h => h) hh (by omega) (by omega) rfl) ?_
  refine JN rfl rfl rfl rfl rfl ?_
  refine JN rfl rfl rfl rfl rfl ?_
  refine JL_nil ?_
  refine JQ_then_n ?_
  refine J_seq ?_
  have hgd : g.getD k 0 = g[k]'hlt := by rw [List.getD_eq_getElem?_getD, List.getElem?_eq_getElem hlt]; rfl
  refine J_keep (l' := [(0, _), (1, _), (4, _), (5, _), (6, _), (7, _), (8, _), (14, _), (15, _), (16, _)]) ⟨rfl, rfl, rfl, rfl, rfl, rfl, rfl, rfl, rfl, rfl, trivial⟩ ?_
  refine J_reg ?_
  refine JM rfl rfl rfl rfl rfl ?_
  refine JM rfl rfl rfl rfl rfl ?_
  refine JP (rp_sliceTo (k := k) rfl rfl rfl Try.underlying26 sz_3 rfl (by omega)) ?_
  refine JP (rp1 rfl (fun ρ hx w => ex_len (A := _) (c := _) rfl Try.underlying26 hx)) ?_
  refine JM rfl rfl rfl rfl rfl ?_
  refine JL_nil ?_
  refine JQ_then_n ?_
  refine J_block ?_
  refine J_loop (T := Nat × Nat × Nat) (fun q => q.1 ≤ k ∧ q.2.1 ≤ 20 * k + q.1 ∧ (∀ x, 0 ≤ ((mtJ (wonM l) g k q.1 (mtA (wonM l) g k)).1 x).getD 0 ∧ ((mtJ (wonM l) g k q.1 (mtA (wonM l) g k)).1 x).getD 0 ≤ 20 * (k : Int) + (q.1 : Int))) (fun q => [(0, .pointer (some ⟨sb, 0, none⟩)), (4, .pointer (some ⟨b4, 0, none⟩)), (5, .pointer (some ⟨b5, 0, none⟩)), (6, .pointer (some ⟨b6, 0, none⟩)), (1, .slice (some ⟨b, p, none⟩) g.length cap), (8, .int .i64 (g.getD k 0)), (14, .slice (some ⟨b, p, none⟩) g.length cap), (15, .int .i64 (g.length : Nat)), (16, .int .i64 (k : Nat)), (23, .slice (some ⟨b, p, none⟩) k cap), (24, .int .i64 (k : Nat)), (25, .int .i64 (q.1 : Nat))]) (fun q => [cellB b6 [.bool (mtJ (wonM l) g k q.1 (mtA (wonM l) g k)).2] 4, cellB b5 [.map (some b13)] 66, mapB 3 3 kI W64 dI b13 q.2.1 q.2.2 (mtJ (wonM l) g k q.1 (mtA (wonM l) g k)).1, cellB b4 [.nilFunc, .nilFunc] 146]) (fun q => k - q.1) (0, N, c) ⟨Nat.zero_le _, by dsimp only; omega, fun x => by have := hbd x; dsimp only [mtJ, List.take_zero, List.foldl_nil]; omega⟩ ⟨rfl, rfl, rfl, rfl, rfl, (by rw [hgd]; rfl), rfl, rfl, rfl, rfl, rfl, rfl, trivial⟩ (by repeat constructor) ?_
  rintro ⟨j, N2, c2⟩ ⟨hj, hN2, hbd2⟩
  dsimp only at hj hN2 hbd2 ⊢
  refine J_seq ?_
  refine J_reg ?_
  refine JP (rp2 rfl rfl (fun ρ hx hy w => ex_lssD rfl hx hy)) ?_
  refine JL_dec (fun h26 => ?_) (fun h26 => ?_)
  ·refine JL_nil ?_
   refine JQ_then_n ?_
   refine J_seq ?_
   refine J_yes rfl rfl ?_
   refine J_skip ?_
   refine JQ_then_n ?_
   refine J_seq ?_
   refine J_block ?_
   refine J_seq ?_
   have hjl : j < g.length := by omega
   have s1 := hst.s1
   obtain ⟨n0, c0, hmp⟩ := hst.mp
   have hkw : W2 (min (g.getD k 0) (g[j]'hjl), max (g.getD k 0) (g[j]'hjl)) := by
    have h1 := hgw _ (List.getElem_mem hjl)
    have h2 := hgw _ (List.getElem_mem hlt)
    rw [hgd]
    refine ⟨⟨?_, ?_⟩, ⟨?_, ?_⟩⟩ <;> dsimp only <;> omega
   rcases hW : wonM l (min (g.getD k 0) (g[j]'hjl), max (g.getD k 0) (g[j]'hjl)) with _ | v
   ·refine J_reg ?_
    refine JP (rp2 rfl rfl (fun ρ hx hy w => ex_indexE rfl hx hy Try.underlying26 sz_3 (by omega))) ?_
    refine JV (rv_hold rfl rfl ag_3 (fun h => h) hh (by omega) (by omega) rfl) ?_
    refine JN rfl rfl rfl rfl rfl ?_
    refine JL_nil ?_
    refine JQ_then_n ?_
    refine J_seq ?_
    refine J_draw [3, 7] (by kernel_rfl) ?_
    refine JAP (i := 0) rfl (rp_move rfl rfl) ?_
    refine JAP (i := 1) rfl (rp_nil rfl rfl) ?_
    refine JAP (i := 2) rfl (rp_fieldC (off' := 1) rfl rfl fa_117_1 rfl) ?_
    refine JAL (i := 3) rfl (rv_old rfl rfl ag_115 (fun h => h) s1) ?_
    refine JAP (i := 4) rfl (rp_move rfl rfl) ?_
    refine JAP (i := 5) rfl (rp_move rfl rfl) ?_
    refine JA_one (i := 6) (by kernel_rfl) rfl (wn0 rfl) (ow_callB (ec_fn rfl rfl cf_69) rfl rfl (fun w hw => pair69 _ _ _)) trivial (fun _ _ => ?_)
    refine JAL (i := 7) rfl (rv_lookOld2E K42 E3 (min (g.getD k 0) (g[j]'hjl), max (g.getD k 0) (g[j]'hjl)) Try.underlying115 rfl rfl rfl (fun h => h) hmp rfl hkw hW) ?_
    refine JAP (i := 8) rfl (rp_move rfl rfl) ?_
    refine JAP (i := 9) rfl (rp_run1 (f := fun u => Instr.extract u 0) (fun _ => rfl) rfl (fun _ => rfl)) ?_
    refine JAP (i := 10) rfl (rp_run1 (f := fun u => Instr.extract u 1) (fun _ => rfl) rfl (fun _ => rfl)) ?_
    refine JAP (i := 11) rfl (rp_assign rfl rfl) ?_
    refine JAP (i := 12) rfl (rp_assign rfl rfl) ?_
    refine JA_done (by kernel_rfl) ?_
    refine JQ_then_n ?_
    refine J_seq ?_
    refine J_keep (l' := [(0, _), (1, _), (4, _), (5, _), (6, _), (8, _), (11, _), (12, _), (14, _), (15, _), (16, _), (23, _), (24, _), (25, _)]) ⟨rfl, rfl, rfl, rfl, rfl, rfl, rfl, rfl, rfl, rfl, rfl, rfl, rfl, rfl, trivial⟩ ?_
    refine J_reg ?_
    refine JV (rv_cell rfl rfl ag_4 (by repeat constructor) (by rfl)) ?_
    refine JL_bool (fun h40 => ?_) (fun h40 => ?_)
    ·refine JM rfl rfl rfl rfl rfl ?_
     refine JPg (rp_move rfl rfl) ?_
     refine JP (rp_pickT rfl rfl rfl) ?_
     refine JL_op (wn0 rfl) (ow_store (cs := [_]) (vs' := [_]) rfl rfl rfl rfl rfl sz_4 rfl (by repeat constructor) (by rfl) (by rfl)) (fun _ _ => ?_)
     refine JL_nil ?_
     refine JQ_then_n ?_
     refine J_seq ?_
     refine J_keep (l' := [(0, _), (1, _), (4, _), (5, _), (6, _), (8, _), (11, _), (12, _), (14, _), (15, _), (16, _), (23, _), (24, _), (25, _)]) ⟨rfl, rfl, rfl, rfl, rfl, rfl, rfl, rfl, rfl, rfl, rfl, rfl, rfl, rfl, trivial⟩ ?_
     refine J_reg ?_
     refine JM rfl rfl rfl rfl rfl ?_
     refine JL_nil ?_
     refine JQ_then_n ?_
     refine J_no rfl rfl ?_
     refine J_skip ?_
     refine JQ_block_n ?_
     refine JQ_then_n ?_
     refine J_reg ?_
     refine JP (rp2 rfl rfl (fun ρ hx hy w => ex_add rfl hx hy (by omega))) ?_
     refine JM rfl rfl rfl rfl rfl ?_
     refine JL_nil ?_
     have hsj := mtJ_succ (wonM l) g k j (mtA (wonM l) g k) hjl
     have e1 : mtJ (wonM l) g k (j + 1) (mtA (wonM l) g k) = ((mtJ (wonM l) g k j (mtA (wonM l) g k)).1, false) := by rw [hsj]; unfold stepM; rw [hW]
     exact JQ_round (j + 1, N2, c2) ⟨by dsimp only; omega, by dsimp only; omega, by dsimp only; rw [e1]; intro x; have := hbd2 x; dsimp only; omega⟩ (by dsimp only; omega) ⟨rfl, rfl, rfl, rfl, rfl, rfl, rfl, rfl, rfl, rfl, rfl, (congrArg some (by go_num)), trivial⟩ (by (try dsimp only); rw [e1]; repeat (first | exact Pk.nil _ | (refine Pk.pick (by repeat (first | exact Rm.here _ | apply Rm.there)) ?_)))
    ·refine JM rfl rfl rfl rfl rfl ?_
     refine JF ?_
     refine JP (rp_pickF rfl rfl rfl) ?_
     refine JL_op (wn0 rfl) (ow_store (cs := [_]) (vs' := [_]) rfl rfl rfl rfl rfl sz_4 rfl (by repeat constructor) (by rfl) (by rfl)) (fun _ _ => ?_)
     refine JL_nil ?_
     refine JQ_then_n ?_
     refine J_seq ?_
     refine J_keep (l' := [(0, _), (1, _), (4, _), (5, _), (6, _), (8, _), (11, _), (12, _), (14, _), (15, _), (16, _), (23, _), (24, _), (25, _)]) ⟨rfl, rfl, rfl, rfl, rfl, rfl, rfl, rfl, rfl, rfl, rfl, rfl, rfl, rfl, trivial⟩ ?_
     refine J_reg ?_
     refine JM rfl rfl rfl rfl rfl ?_
     refine JL_nil ?_
     refine JQ_then_n ?_
     refine J_no rfl rfl ?_
     refine J_skip ?_
     refine JQ_block_n ?_
     refine JQ_then_n ?_
     refine J_reg ?_
     refine JP (rp2 rfl rfl (fun ρ hx hy w => ex_add rfl hx hy (by omega))) ?_
     refine JM rfl rfl rfl rfl rfl ?_
     refine JL_nil ?_
     have hsj := mtJ_succ (wonM l) g k j (mtA (wonM l) g k) hjl
     have e1 : mtJ (wonM l) g k (j + 1) (mtA (wonM l) g k) = ((mtJ (wonM l) g k j (mtA (wonM l) g k)).1, false) := by rw [hsj]; unfold stepM; rw [hW]
     exact JQ_round (j + 1, N2, c2) ⟨by dsimp only; omega, by dsimp only; omega, by dsimp only; rw [e1]; intro x; have := hbd2 x; dsimp only; omega⟩ (by dsimp only; omega) ⟨rfl, rfl, rfl, rfl, rfl, rfl, rfl, rfl, rfl, rfl, rfl, (congrArg some (by go_num)), trivial⟩ (by (try dsimp only); rw [e1]; repeat (first | exact Pk.nil _ | (refine Pk.pick (by repeat (first | exact Rm.here _ | apply Rm.there)) ?_)))
   ·have hvi := wonM_in hv _ _ hW
    have hvw : W64 v := by unfold W64; omega
    refine J_reg ?_
    refine JP (rp2 rfl rfl (fun ρ hx hy w => ex_indexE rfl hx hy Try.underlying26 sz_3 (by omega))) ?_
    refine JV (rv_hold rfl rfl ag_3 (fun h => h) hh (by omega) (by omega) rfl) ?_
    refine JN rfl rfl rfl rfl rfl ?_
    refine JL_nil ?_
    refine JQ_then_n ?_
    refine J_seq ?_
    refine J_draw [3, 7] (by kernel_rfl) ?_
    refine JAP (i := 0) rfl (rp_move rfl rfl) ?_
    refine JAP (i := 1) rfl (rp_nil rfl rfl) ?_
    refine JAP (i := 2) rfl (rp_fieldC (off' := 1) rfl rfl fa_117_1 rfl) ?_
    refine JAL (i := 3) rfl (rv_old rfl rfl ag_115 (fun h => h) s1) ?_
    refine JAP (i := 4) rfl (rp_move rfl rfl) ?_
    refine JAP (i := 5) rfl (rp_move rfl rfl) ?_
    refine JA_one (i := 6) (by kernel_rfl) rfl (wn0 rfl) (ow_callB (ec_fn rfl rfl cf_69) rfl rfl (fun w hw => pair69 _ _ _)) trivial (fun _ _ => ?_)
    refine JAL (i := 7) rfl (rv_lookOld2E K42 E3 (min (g.getD k 0) (g[j]'hjl), max (g.getD k 0) (g[j]'hjl)) Try.underlying115 rfl rfl rfl (fun h => h) hmp rfl hkw hW) ?_
    refine JAP (i := 8) rfl (rp_move rfl rfl) ?_
    refine JAP (i := 9) rfl (rp_run1 (f := fun u => Instr.extract u 0) (fun _ => rfl) rfl (fun _ => rfl)) ?_
    refine JAP (i := 10) rfl (rp_run1 (f := fun u => Instr.extract u 1) (fun _ => rfl) rfl (fun _ => rfl)) ?_
    refine JAP (i := 11) rfl (rp_assign rfl rfl) ?_
    refine JAP (i := 12) rfl (rp_assign rfl rfl) ?_
    refine JA_done (by kernel_rfl) ?_
    refine JQ_then_n ?_
    refine J_seq ?_
    refine J_keep (l' := [(0, _), (1, _), (4, _), (5, _), (6, _), (8, _), (11, _), (12, _), (14, _), (15, _), (16, _), (23, _), (24, _), (25, _)]) ⟨rfl, rfl, rfl, rfl, rfl, rfl, rfl, rfl, rfl, rfl, rfl, rfl, rfl, rfl, trivial⟩ ?_
    refine J_reg ?_
    refine JV (rv_cell rfl rfl ag_4 (by repeat constructor) (by rfl)) ?_
    refine JL_bool (fun h40 => ?_) (fun h40 => ?_)
    ·refine JM rfl rfl rfl rfl rfl ?_
     refine JPg (rp_move rfl rfl) ?_
     refine JP (rp_pickT rfl rfl rfl) ?_
     refine JL_op (wn0 rfl) (ow_store (cs := [_]) (vs' := [_]) rfl rfl rfl rfl rfl sz_4 rfl (by repeat constructor) (by rfl) (by rfl)) (fun _ _ => ?_)
     refine JL_nil ?_
     refine JQ_then_n ?_
     refine J_seq ?_
     refine J_keep (l' := [(0, _), (1, _), (4, _), (5, _), (6, _), (8, _), (11, _), (12, _), (14, _), (15, _), (16, _), (23, _), (24, _), (25, _)]) ⟨rfl, rfl, rfl, rfl, rfl, rfl, rfl, rfl, rfl, rfl, rfl, rfl, rfl, rfl, trivial⟩ ?_
     refine J_reg ?_
     refine JM rfl rfl rfl rfl rfl ?_
     refine JL_nil ?_
     refine JQ_then_n ?_
     refine J_yes rfl rfl ?_
     refine J_reg ?_
     refine JV (rv_cell rfl rfl ag_66 (by repeat constructor) (by rfl)) ?_
     refine JM rfl rfl rfl rfl rfl ?_
     refine JV (rv_look K3 E3 (kt := 3) (e := 3) (m := N2) (c := c2) (f := (mtJ (wonM l) g k j (mtA (wonM l) g k)).1) v Try.underlying66 rfl rfl rfl (by repeat constructor) rfl hvw) ?_
     have hbv := hbd2 v
     refine JP (rp2 rfl rfl (fun ρ hx hy w => ex_add rfl hx hy (by omega))) ?_
     refine JL_op (wn0 rfl) (ow_put K3 E3 (kt := 3) (e := 3) v (((mtJ (wonM l) g k j (mtA (wonM l) g k)).1 v).getD 0 + 1) Try.underlying66 rfl rfl rfl rfl rfl rfl rfl (by repeat constructor) hvw (by have := hbd2 v; unfold W64; omega) (by omega)) (fun _ _ => ?_)
     refine JL_nil ?_
     refine JQ_block_n ?_
     refine JQ_then_n ?_
     refine J_keep (l' := [(0, _), (1, _), (4, _), (5, _), (6, _), (8, _), (14, _), (15, _), (16, _), (23, _), (24, _), (25, _)]) ⟨rfl, rfl, rfl, rfl, rfl, rfl, rfl, rfl, rfl, rfl, rfl, rfl, trivial⟩ ?_
     refine J_reg ?_
     refine JP (rp2 rfl rfl (fun ρ hx hy w => ex_add rfl hx hy (by omega))) ?_
     refine JM rfl rfl rfl rfl rfl ?_
     refine JL_nil ?_
     have hsj := mtJ_succ (wonM l) g k j (mtA (wonM l) g k) hjl
     have e1 : mtJ (wonM l) g k (j + 1) (mtA (wonM l) g k) = (upd (mtJ (wonM l) g k j (mtA (wonM l) g k)).1 v (((mtJ (wonM l) g k j (mtA (wonM l) g k)).1 v).getD 0 + 1), (mtJ (wonM l) g k j (mtA (wonM l) g k)).2) := by rw [hsj]; unfold stepM; rw [hW]
     have hbd3 : ∀ x, 0 ≤ (upd (mtJ (wonM l) g k j (mtA (wonM l) g k)).1 v (((mtJ (wonM l) g k j (mtA (wonM l) g k)).1 v).getD 0 + 1) x).getD 0 ∧ (upd (mtJ (wonM l) g k j (mtA (wonM l) g k)).1 v (((mtJ (wonM l) g k j (mtA (wonM l) g k)).1 v).getD 0 + 1) x).getD 0 ≤ 20 * (k : Int) + ((j + 1 : Nat) : Int) := by
      intro x
      unfold upd
      split
      ·have := hbd2 v; simp only [Option.getD_some]; omega
      ·have := hbd2 x; omega
     exact JQ_round (j + 1, N2 + 1, _) ⟨by dsimp only; omega, by dsimp only; omega, by dsimp only; rw [e1]; exact hbd3⟩ (by dsimp only; omega) ⟨rfl, rfl, rfl, rfl, rfl, rfl, rfl, rfl, rfl, rfl, rfl, (congrArg some (by go_num)), trivial⟩ (by (try dsimp only); rw [e1, h40]; repeat (first | exact Pk.nil _ | (refine Pk.pick (by repeat (first | exact Rm.here _ | apply Rm.there)) ?_)))
    ·refine JM rfl rfl rfl rfl rfl ?_
     refine JF ?_
     refine JP (rp_pickF rfl rfl rfl) ?_
     refine JL_op (wn0 rfl) (ow_store (cs := [_]) (vs' := [_]) rfl rfl rfl rfl rfl sz_4 rfl (by repeat constructor) (by rfl) (by rfl)) (fun _ _ => ?_)
     refine JL_nil ?_
     refine JQ_then_n ?_
     refine J_seq ?_
     refine J_keep (l' := [(0, _), (1, _), (4, _), (5, _), (6, _), (8, _), (11, _), (12, _), (14, _), (15, _), (16, _), (23, _), (24, _), (25, _)]) ⟨rfl, rfl, rfl, rfl, rfl, rfl, rfl, rfl, rfl, rfl, rfl, rfl, rfl, rfl, trivial⟩ ?_
     refine J_reg ?_
     refine JM rfl rfl rfl rfl rfl ?_
     refine JL_nil ?_
     refine JQ_then_n ?_
     refine J_yes rfl rfl ?_
     refine J_reg ?_
     refine JV (rv_cell rfl rfl ag_66 (by repeat constructor) (by rfl)) ?_
     refine JM rfl rfl rfl rfl rfl ?_
     refine JV (rv_look K3 E3 (kt := 3) (e := 3) (m := N2) (c := c2) (f := (mtJ (wonM l) g k j (mtA (wonM l) g k)).1) v Try.underlying66 rfl rfl rfl (by repeat constructor) rfl hvw) ?_
     have hbv := hbd2 v
     refine JP (rp2 rfl rfl (fun ρ hx hy w => ex_add rfl hx hy (by omega))) ?_
     refine JL_op (wn0 rfl) (ow_put K3 E3 (kt := 3) (e := 3) v (((mtJ (wonM l) g k j (mtA (wonM l) g k)).1 v).getD 0 + 1) Try.underlying66 rfl rfl rfl rfl rfl rfl rfl (by repeat constructor) hvw (by have := hbd2 v; unfold W64; omega) (by omega)) (fun _ _ => ?_)
     refine JL_nil ?_
     refine JQ_block_n ?_
     refine JQ_then_n ?_
     refine J_keep (l' := [(0, _), (1, _), (4, _), (5, _), (6, _), (8, _), (14, _), (15, _), (16, _), (23, _), (24, _), (25, _)]) ⟨rfl, rfl, rfl, rfl, rfl, rfl, rfl, rfl, rfl, rfl, rfl, rfl, trivial⟩ ?_
     refine J_reg ?_
     refine JP (rp2 rfl rfl (fun ρ hx hy w => ex_add rfl hx hy (by omega))) ?_
     refine JM rfl rfl rfl rfl rfl ?_
     refine JL_nil ?_
     have hsj := mtJ_succ (wonM l) g k j (mtA (wonM l) g k) hjl
     have e1 : mtJ (wonM l) g k (j + 1) (mtA (wonM l) g k) = (upd (mtJ (wonM l) g k j (mtA (wonM l) g k)).1 v (((mtJ (wonM l) g k j (mtA (wonM l) g k)).1 v).getD 0 + 1), (mtJ (wonM l) g k j (mtA (wonM l) g k)).2) := by rw [hsj]; unfold stepM; rw [hW]
     have hbd3 : ∀ x, 0 ≤ (upd (mtJ (wonM l) g k j (mtA (wonM l) g k)).1 v (((mtJ (wonM l) g k j (mtA (wonM l) g k)).1 v).getD 0 + 1) x).getD 0 ∧ (upd (mtJ (wonM l) g k j (mtA (wonM l) g k)).1 v (((mtJ (wonM l) g k j (mtA (wonM l) g k)).1 v).getD 0 + 1) x).getD 0 ≤ 20 * (k : Int) + ((j + 1 : Nat) : Int) := by
      intro x
      unfold upd
      split
      ·have := hbd2 v; simp only [Option.getD_some]; omega
      ·have := hbd2 x; omega
     exact JQ_round (j + 1, N2 + 1, _) ⟨by dsimp only; omega, by dsimp only; omega, by dsimp only; rw [e1]; exact hbd3⟩ (by dsimp only; omega) ⟨rfl, rfl, rfl, rfl, rfl, rfl, rfl, rfl, rfl, rfl, rfl, (congrArg some (by go_num)), trivial⟩ (by (try dsimp only); rw [e1, h40]; repeat (first | exact Pk.nil _ | (refine Pk.pick (by repeat (first | exact Rm.here _ | apply Rm.there)) ?_)))
  ·refine JL_nil ?_
   refine JQ_then_n ?_
   refine J_seq ?_
   refine J_no rfl rfl ?_
   refine J_exit ?_
   refine JQ_then_x ?_
   refine JQ_then_x ?_
   refine JQ_block_y rfl ?_
   refine JQ_block_n ?_
   refine JQ_then_n ?_
   refine J_keep (l' := [(0, _), (1, _), (4, _), (5, _), (6, _), (14, _), (15, _), (16, _)]) ⟨rfl, rfl, rfl, rfl, rfl, rfl, rfl, rfl, trivial⟩ ?_
   refine J_reg ?_
   refine JP (rp2 rfl rfl (fun ρ hx hy w => ex_add rfl hx hy (by omega))) ?_
   refine JM rfl rfl rfl rfl rfl ?_
   refine JL_nil ?_
   have ej : j = k := by omega
   subst ej
   have e1 : mtA (wonM l) g (j + 1) = mtJ (wonM l) g j j (mtA (wonM l) g j) := rfl
   exact JQ_round (j + 1, N2, c2) ⟨by dsimp only; omega, by dsimp only; omega, fun x => by dsimp only; rw [e1]; have := hbd2 x; omega⟩ (by dsimp only; omega) ⟨rfl, rfl, rfl, rfl, rfl, rfl, rfl, (congrArg some (by go_num)), trivial⟩ (by (try dsimp only); rw [e1]; repeat (first | exact Pk.nil _ | (refine Pk.pick (by repeat (first | exact Rm.here _ | apply Rm.there)) ?_)))
 ·refine JL_nil ?_
  refine JQ_then_n ?_
  refine J_seq ?_
  refine J_no rfl rfl ?_
  refine J_exit ?_
  refine JQ_then_x ?_
  refine JQ_then_x ?_
  refine JQ_block_y rfl ?_
  refine JQ_then_n ?_
  refine J_seq ?_
  refine J_keep (l' := [(4, _), (5, _), (6, _)]) ⟨rfl, rfl, rfl, trivial⟩ ?_
  refine J_reg ?_
  refine JP (rp_func rfl rfl rfl) ?_
  refine JP (rp_func rfl rfl rfl) ?_
  refine JP (rp_buildC (fun us => [us.getD 0 undef, us.getD 1 undef]) rfl rfl (fun w => by kernel_rfl)) ?_
  refine JL_op (wn0 rfl) (ow_store (cs := [_, _]) (vs' := [_, _]) rfl rfl rfl rfl rfl sz_146 rfl (by repeat constructor) (by rfl) (by rfl)) (fun _ _ => ?_)
  refine JL_nil ?_
  refine JQ_then_n ?_
  refine J_ret ?_
  refine JR_one rfl (rr_agg (cs := [_, _]) rfl ag_146 sz_146 (by repeat constructor) (by rfl)) ?_
  intro w' hw
  have ek : k = g.length := by omega
  subst ek
  exact ⟨(b5, b6, b13, N, c), by dsimp only; omega, rfl, hw.pick (by repeat constructor)⟩
end Go.Proofs.Ytlfbbofcnonhdaa

/- Contracts: what meetings hand out. -/
namespace Go.Proofs.Ytlfbbofcnonhdaa
open Go Go.RowKit Go.Proofs

theorem retD_of {k ty : Nat} {α : Type} {enc : α → List Value} {L : List (List α)} {w w' : World} {e : Ending} (h : (∃ u, e = .returned u ∧ OwnD w.heap.size ty k enc w' u L) ∧ Below w.heap.size w w') : RetD ty k enc (fun _ => False) L w e w' := by
 obtain ⟨⟨u, rfl, D, h1, h2, h3⟩, hb⟩ := h
 obtain ⟨A, c, rfl, -, -⟩ := row_form h1
 refine ⟨A, c, D, h3, rfl, ⟨hb.os, hb.tape, hb.output, hb.size, fun b h _ => hb.block b h, fun C hC => ?_, ?_⟩, fun p hp _ b o e => .inl (h2 p hp |>.2 b o e).1⟩
 ·rcases List.mem_cons.1 hC with rfl | hC
  ·refine ⟨own_base h1 (fun _ _ => Nat.zero_le _), fun b hb' => ?_⟩
   have := World.ownsRow.lt h1 b hb'
   exact ⟨.inr (.inr this.1), this.2⟩
  ·rw [List.mem_singleton.1 hC]
   refine ⟨fun p hp => (h2 p hp).1, ?_⟩
   rintro b ⟨p, hp, -, o, ho⟩
   have := (h2 p hp).2 b o ho
   exact ⟨.inl rfl, this.2.1⟩
 ·refine List.pairwise_cons.2 ⟨fun C hC => .inr ?_, List.pairwise_singleton _ _⟩
  rw [List.mem_singleton.1 hC]
  rintro b hb' ⟨p, hp, -, o, ho⟩
  exact ((h2 p hp).2 b o ho).2.2 hb'.symm
/-- What meetings keep, as it lies in the memory of the caller. -/
structure MtF (m : Int → Option Int) (met : Bool) (w : World) (b5 b6 bm : Nat) : Prop where
 c5 : w.cell? ⟨b5, 0, none⟩ = some (.map (some bm))
 c6 : w.cell? ⟨b6, 0, none⟩ = some (.bool met)
 mp : ∃ n c, MapF 3 3 kI W64 dI w bm n c m
theorem MtF.up {m : Int → Option Int} {met : Bool} {w w' : World} {b5 b6 bm : Nat} (h : MtF m met w b5 b6 bm) (hb : Below w.heap.size w w') : MtF m met w' b5 b6 bm := by
 obtain ⟨n, c, h1⟩ := h.mp
 exact ⟨upc h.c5 hb, upc h.c6 hb, n, c, h1.up hb⟩
theorem MtF.of {m : Int → Option Int} {met : Bool} {B : Bs} {H : List It} {w : World} {b5 b6 bm n c : Nat} (hw : Wd B H w) (h1 : cellB b5 [.map (some bm)] 66 ∈ H) (h2 : cellB b6 [.bool met] 4 ∈ H) (h3 : mapB 3 3 kI W64 dI bm n c m ∈ H) : MtF m met w b5 b6 bm :=
 ⟨cellB_get (hw.ok _ h1).1 rfl, cellB_get (hw.ok _ h2).1 rfl, n, c, (hw.ok _ h3).1⟩
def askP (m : Int → Option Int) (g : List Int) (a : Int) : Bool := decide ((m a).getD 0 ≠ (m (g.getD 0 0)).getD 0)
set_option maxRecDepth 100000 in
set_option maxHeartbeats 4000000 in
theorem tells102 (m : Int → Option Int) (met : Bool) (g : List Int) (a : Int) (w : World) (b5 b6 bm b3 : Nat) (A : Option Addr) (cap : Nat) (hm : MtF m met w b5 b6 bm) (hc2 : w.cell? ⟨b3, 0, none⟩ = some (.slice A g.length cap)) (hrow : Arr 1 eI w (.slice A g.length cap) g) (hpos : 0 < g.length) (ha : W64 a) (hg0 : W64 (g.getD 0 0)) : Calls Try.prog 102 #[.int .i64 a, .pointer (some ⟨b5, 0, none⟩), .pointer (some ⟨b3, 0, none⟩)] w (Back (.bool (askP m g a)) w) := by
 obtain ⟨n0, c0, hmp⟩ := hm.mp
 have hc5 := hm.c5
 obtain ⟨A', cap', e, -, -, hA⟩ := hrow
 injection e with e1 e2 e3
 subst e1 e3
 obtain ⟨b, q, rfl, hh⟩ := hA (by intro e; subst e; simp at hpos)
 have hgd : g.getD 0 0 = g[0]'hpos := by rw [List.getD_eq_getElem?_getD, List.getElem?_eq_getElem hpos]; rfl
 refine J_enter (fun _ => False) (vs := [.int .i64 a, .pointer (some ⟨b5, 0, none⟩), .pointer (some ⟨b3, 0, none⟩)]) (k := 11) (l := [(0, .int .i64 a), (1, .pointer (some ⟨b5, 0, none⟩)), (2, .pointer (some ⟨b3, 0, none⟩))]) Try.func102 rfl rfl Try.ntmps102 rfl rfl (Wd.start _) ?_
 refine J_seq ?_
 refine J_reg ?_
 refine JN rfl rfl rfl rfl rfl ?_
 refine JL_nil ?_
 refine JQ_then_n ?_
 refine J_seq ?_
 refine J_draw [0, 2, 3, 4, 6, 7] (by kernel_rfl) ?_
 refine JAL (i := 0) rfl (rv_old rfl rfl ag_66 (fun h => h) hc5) ?_
 refine JAP (i := 1) rfl (rp_move rfl rfl) ?_
 refine JAL (i := 2) rfl (rv_lookOld K3 E3 (kt := 3) (e := 3) (f := m) a Try.underlying66 rfl rfl rfl (fun h => h) hmp rfl ha) ?_
 refine JAL (i := 3) rfl (rv_old rfl rfl ag_66 (fun h => h) hc5) ?_
 refine JAL (i := 4) rfl (rv_old rfl rfl ag_26 (fun h => h) hc2) ?_
 refine JAP (i := 5) rfl (rp2 rfl rfl (fun ρ hx hy w => ex_indexI (k := 0) rfl hx hy rfl Try.underlying26 sz_3 hpos)) ?_
 refine JAL (i := 6) rfl (rv_hold (j := 0) rfl rfl ag_3 (fun h => h) hh hpos (by omega) (by rw [← hgd]; rfl)) ?_
 refine JAL (i := 7) rfl (rv_lookOld K3 E3 (kt := 3) (e := 3) (f := m) (g.getD 0 0) Try.underlying66 rfl rfl rfl (fun h => h) hmp rfl hg0) ?_
 refine JAP (i := 8) rfl (rp2 rfl rfl (fun ρ hx hy w => ex_neqD rfl hx hy)) ?_
 refine JAP (i := 9) rfl (rp_assign rfl rfl) ?_
 refine JA_done (by kernel_rfl) ?_
 refine JQ_then_n ?_
 refine J_ret ?_
 refine JR_one rfl (rr_tmp rfl) ?_
 intro w' hw
 exact ⟨rfl, hw.bel⟩
set_option maxRecDepth 100000 in
set_option maxHeartbeats 4000000 in
theorem asked101 (m : Int → Option Int) (met : Bool) (g : List Int) (w : World) (b5 b6 bm : Nat) (A : Option Addr) (cap : Nat) (hm : MtF m met w b5 b6 bm) (hrow : Arr 1 eI w (.slice A g.length cap) g) (hpos : 0 < g.length) (hgl : g.length ≤ 20) (hgw : ∀ x ∈ g, W64 x) : Calls Try.prog 101 #[.slice A g.length cap, .pointer (some ⟨b6, 0, none⟩), .pointer (some ⟨b5, 0, none⟩)] w (Back (.bool (met && g.any (askP m g))) w) := by
 have hc6 := hm.c6
 have hg0 : W64 (g.getD 0 0) := by
  rw [List.getD_eq_getElem?_getD, List.getElem?_eq_getElem hpos]; exact hgw _ (List.getElem_mem _)
 refine J_enter (fun _ => False) (vs := [.slice A g.length cap, .pointer (some ⟨b6, 0, none⟩), .pointer (some ⟨b5, 0, none⟩)]) (k := 8) (l := [(0, .slice A g.length cap), (1, .pointer (some ⟨b6, 0, none⟩)), (2, .pointer (some ⟨b5, 0, none⟩))]) Try.func101 rfl rfl Try.ntmps101 rfl rfl (Wd.start _) ?_
 refine J_seq ?_
 refine J_reg ?_
 refine JL_op (wn0 rfl) (ow_box (vs := [_]) rfl rfl rfl rfl rfl) (fun b3 hb3 => ?_)
 refine JN rfl rfl rfl rfl rfl ?_
 refine JL_nil ?_
 refine JQ_then_n ?_
 refine J_seq ?_
 refine J_reg ?_
 refine JV (rv_old rfl rfl ag_4 (fun h => h) hc6) ?_
 refine JL_bool (fun h5 => ?_) (fun h5 => ?_)
 ·refine JM rfl rfl rfl rfl rfl ?_
  refine JVg (rv_cell rfl rfl ag_26 (by repeat constructor) (by rfl)) ?_
  refine JPg (rp_func rfl rfl rfl) ?_
  refine JL_op (wn_g rfl rfl rfl rfl) (ow_callB (ec_fn rfl rfl cf_48) rfl rfl (fun w hw => ContainsFunc48 102 #[] #[.pointer (some ⟨b5, 0, none⟩), .pointer (some ⟨b3, 0, none⟩)] (askP m g) g _ w cf_102 (fun x hx W hW => tells102 m met g x W b5 b6 bm b3 A cap ((hm.up hw.bel).up hW) (upc (cellB_get (hw.ok _ (by repeat constructor)).1 rfl) hW) ((hrow.up EI hw.bel).up EI hW) hpos (hgw x hx) hg0) (hrow.up EI hw.bel) (by omega))) (fun _ _ => ?_)
  refine JP (rp_pickT rfl rfl rfl) ?_
  refine JN rfl rfl rfl rfl rfl ?_
  refine JL_nil ?_
  refine JQ_then_n ?_
  refine J_ret ?_
  refine JR_one rfl (rr_tmp rfl) ?_
  intro w' hw
  exact ⟨by rw [h5]; rfl, hw.bel⟩
 ·refine JM rfl rfl rfl rfl rfl ?_
  refine JF ?_
  refine JF ?_
  refine JF ?_
  refine JP (rp_pickF rfl rfl rfl) ?_
  refine JN rfl rfl rfl rfl rfl ?_
  refine JL_nil ?_
  refine JQ_then_n ?_
  refine J_ret ?_
  refine JR_one rfl (rr_tmp rfl) ?_
  intro w' hw
  exact ⟨by rw [h5]; rfl, hw.bel⟩
set_option maxRecDepth 100000 in
set_option maxHeartbeats 4000000 in
theorem order103 (m : Int → Option Int) (met : Bool) (a b : Int) (w : World) (b5 b6 bm : Nat) (hm : MtF m met w b5 b6 bm) (ha : W64 a) (hb : W64 b) (hbd : ∀ x, 0 ≤ (m x).getD 0 ∧ (m x).getD 0 ≤ 1000) : Calls Try.prog 103 #[.int .i64 a, .int .i64 b, .pointer (some ⟨b5, 0, none⟩)] w (Back (.int .i64 ((m b).getD 0 - (m a).getD 0)) w) := by
 obtain ⟨n0, c0, hmp⟩ := hm.mp
 have hc5 := hm.c5
 have y1 := hbd a
 have y2 := hbd b
 refine J_enter (fun _ => False) (vs := [.int .i64 a, .int .i64 b, .pointer (some ⟨b5, 0, none⟩)]) (k := 10) (l := [(0, .int .i64 a), (1, .int .i64 b), (2, .pointer (some ⟨b5, 0, none⟩))]) Try.func103 rfl rfl Try.ntmps103 rfl rfl (Wd.start _) ?_
 refine J_seq ?_
 refine J_reg ?_
 refine JN rfl rfl rfl rfl rfl ?_
 refine JL_nil ?_
 refine JQ_then_n ?_
 refine J_seq ?_
 refine J_reg ?_
 refine JV (rv_old rfl rfl ag_66 (fun h => h) hc5) ?_
 refine JM rfl rfl rfl rfl rfl ?_
 refine JV (rv_lookOld K3 E3 (kt := 3) (e := 3) (f := m) b Try.underlying66 rfl rfl rfl (fun h => h) hmp rfl hb) ?_
 refine JV (rv_old rfl rfl ag_66 (fun h => h) hc5) ?_
 refine JM rfl rfl rfl rfl rfl ?_
 refine JV (rv_lookOld K3 E3 (kt := 3) (e := 3) (f := m) a Try.underlying66 rfl rfl rfl (fun h => h) hmp rfl ha) ?_
 refine JP (rp2 rfl rfl (fun ρ hx hy w => ex_sub rfl hx hy (by omega))) ?_
 refine JN rfl rfl rfl rfl rfl ?_
 refine JL_nil ?_
 refine JQ_then_n ?_
 refine J_ret ?_
 refine JR_one rfl (rr_tmp rfl) ?_
 intro w' hw
 exact ⟨rfl, hw.bel⟩
end Go.Proofs.Ytlfbbofcnonhdaa
