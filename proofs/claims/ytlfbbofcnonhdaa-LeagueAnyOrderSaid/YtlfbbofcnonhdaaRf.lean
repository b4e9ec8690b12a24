/- Contracts of the document: lists compared, Check. -/
import Derived.Test.YtlfbbofcnonhdaaRd
namespace Go.Proofs.Ytlfbbofcnonhdaa
open Go Go.RowKit Go.Proofs

set_option maxRecDepth 100000 in
set_option maxHeartbeats 4000000 in
theorem SamePairs32 (l m : List (Int × Int)) (v u : Value) (w : World) (hl : Arr 2 eP w v l) (hm : Arr 2 eP w u m) : Calls Try.prog 32 #[v, u] w (Back (.bool (decide (l = m))) w) := by
 obtain ⟨A, cap, rfl, -, ⟨hlb, -⟩, hA⟩ := hl
 obtain ⟨A1, cap1, rfl, -, ⟨hmb, -⟩, hA1⟩ := hm
 refine J_enter (fun _ => False) (vs := [.slice A l.length cap, .slice A1 m.length cap1]) (k := 24) (l := [(0, .slice A l.length cap), (1, .slice A1 m.length cap1)]) Try.func32 rfl rfl Try.ntmps32 rfl rfl (Wd.start _) ?_
 refine J_seq ?_
 refine J_reg ?_
 refine JN rfl rfl rfl rfl rfl ?_
 refine JL_nil ?_
 refine JQ_then_n ?_
 refine J_seq ?_
 refine J_seq ?_
 refine J_reg ?_
 refine JM rfl rfl rfl rfl rfl ?_
 refine JP (rp1 rfl (fun ρ hx w => ex_len (A := _) (c := _) rfl Try.underlying41 hx)) ?_
 refine JM rfl rfl rfl rfl rfl ?_
 refine JP (rp1 rfl (fun ρ hx w => ex_len (A := _) (c := _) rfl Try.underlying41 hx)) ?_
 refine JP (rp2 rfl rfl (fun ρ hx hy w => ex_neqD rfl hx hy)) ?_
 refine JL_dec (fun h10 => ?_) (fun h10 => ?_)
 ·refine JL_nil ?_
  refine JQ_then_n ?_
  refine J_yes rfl rfl ?_
  refine J_seq ?_
  refine J_keep (l' := []) trivial ?_
  refine J_reg ?_
  refine JN rfl rfl rfl rfl rfl ?_
  refine JL_nil ?_
  refine JQ_then_n ?_
  refine J_ret ?_
  refine JQ_then_r ?_
  refine JR_one rfl (rr_tmp rfl) ?_
  intro w' hw
  exact ⟨by rw [decide_eq_false (fun e => h10 (by rw [e]))], hw.bel⟩
 ·refine JL_nil ?_
  refine JQ_then_n ?_
  refine J_no rfl rfl ?_
  refine J_skip ?_
  refine JQ_then_n ?_
  refine J_seq ?_
  refine J_seq ?_
  refine J_keep (l' := [(0, _), (1, _)]) ⟨rfl, rfl, trivial⟩ ?_
  refine J_reg ?_
  refine JN rfl rfl rfl rfl rfl ?_
  refine JL_nil ?_
  refine JQ_then_n ?_
  refine J_block ?_
  refine J_loop (T := Nat) (fun k => k ≤ l.length ∧ l.take k = m.take k) (fun k => [(0, .slice A l.length cap), (1, .slice A1 m.length cap1), (5, .int .i64 (k : Nat))]) (fun k => []) (fun k => l.length - k) 0 ⟨Nat.zero_le _, rfl⟩ ⟨rfl, rfl, rfl, trivial⟩ (by repeat constructor) ?_
  rintro k ⟨hk, he⟩
  refine J_seq ?_
  refine J_seq ?_
  refine J_reg ?_
  refine JM rfl rfl rfl rfl rfl ?_
  refine JM rfl rfl rfl rfl rfl ?_
  refine JP (rp1 rfl (fun ρ hx w => ex_len (A := _) (c := _) rfl Try.underlying41 hx)) ?_
  refine JP (rp2 rfl rfl (fun ρ hx hy w => ex_lssD rfl hx hy)) ?_
  refine JL_dec (fun h14 => ?_) (fun h14 => ?_)
  ·refine JL_nil ?_
   refine JQ_then_n ?_
   refine J_yes rfl rfl ?_
   refine J_skip ?_
   refine JQ_then_n ?_
   refine J_seq ?_
   refine J_block ?_
   refine J_seq ?_
   have hlt : k < l.length := by omega
   have hlm : l.length = m.length := by omega
   obtain ⟨b, p, rfl, hh⟩ := hA (by intro e; subst e; simp at hlt)
   obtain ⟨c, q, rfl, hi⟩ := hA1 (by intro e; rw [e] at hlm; simp only [List.length_nil] at hlm; omega)
   refine J_keep (l' := [(0, _), (1, _), (5, _)]) ⟨rfl, rfl, rfl, trivial⟩ ?_
   refine J_draw [3, 7] (by kernel_rfl) ?_
   refine JAP (i := 0) rfl (rp_move rfl rfl) ?_
   refine JAP (i := 1) rfl (rp_move rfl rfl) ?_
   refine JAP (i := 2) rfl (rp2 rfl rfl (fun ρ hx hy w => ex_indexE rfl hx hy Try.underlying41 sz_42 (by omega))) ?_
   refine JAL (i := 3) rfl (rv_holdagg (E := EP) rfl rfl ag_42 sz_42 (fun h => h) hh (by omega) rfl) ?_
   refine JAP (i := 4) rfl (rp_move rfl rfl) ?_
   refine JAP (i := 5) rfl (rp_move rfl rfl) ?_
   refine JAP (i := 6) rfl (rp2 rfl rfl (fun ρ hx hy w => ex_indexE rfl hx hy Try.underlying41 sz_42 (by omega))) ?_
   refine JAL (i := 7) rfl (rv_holdagg (E := EP) rfl rfl ag_42 sz_42 (fun h => h) hi (by omega) rfl) ?_
   refine JAP (i := 8) rfl (rp2 rfl rfl (fun ρ hx hy w => ex_neq42 rfl hx hy)) ?_
   refine JA_dec (fun h25 => ?_) (fun h25 => ?_)
   ·have hne : ¬ l[k]'hlt = m[k]'(by omega) := fun e => h25 (by rw [e]; exact ⟨rfl, rfl⟩)
    refine JA_done (by kernel_rfl) ?_
    refine JQ_then_n ?_
    refine J_yes rfl rfl ?_
    refine J_seq ?_
    refine J_keep (l' := []) trivial ?_
    refine J_reg ?_
    refine JN rfl rfl rfl rfl rfl ?_
    refine JL_nil ?_
    refine JQ_then_n ?_
    refine J_ret ?_
    refine JQ_block_r ?_
    refine JQ_then_r ?_
    refine JQ_then_r ?_
    refine JQ_block_r ?_
    refine JQ_then_r ?_
    refine JR_one rfl (rr_tmp rfl) ?_
    intro w' hw
    exact ⟨by rw [decide_eq_false (fun e => hne (by subst e; rfl))], hw.bel⟩
   ·have heq : l[k]'hlt = m[k]'(by omega) := by
     have h := Classical.not_not.1 h25
     exact Prod.ext h.1 h.2
    refine JA_done (by kernel_rfl) ?_
    refine JQ_then_n ?_
    refine J_no rfl rfl ?_
    refine J_skip ?_
    refine JQ_block_n ?_
    refine JQ_then_n ?_
    refine J_keep (l' := [(0, _), (1, _), (5, _)]) ⟨rfl, rfl, rfl, trivial⟩ ?_
    refine J_reg ?_
    refine JM rfl rfl rfl rfl rfl ?_
    refine JP (rp2 rfl rfl (fun ρ hx hy w => ex_add rfl hx hy (by omega))) ?_
    refine JN rfl rfl rfl rfl rfl ?_
    refine JL_nil ?_
    have hsn : l.take (k + 1) = m.take (k + 1) := by rw [List.take_succ_eq_append_getElem hlt, List.take_succ_eq_append_getElem (by omega : k < m.length), he, heq]
    exact JQ_round (k + 1) ⟨by omega, hsn⟩ (by omega) ⟨rfl, rfl, (congrArg some (by go_num)), trivial⟩ (by repeat constructor)
  ·refine JL_nil ?_
   refine JQ_then_n ?_
   refine J_no rfl rfl ?_
   refine J_exit ?_
   refine JQ_then_x ?_
   refine JQ_then_x ?_
   refine JQ_block_y rfl ?_
   refine JQ_then_n ?_
   refine J_seq ?_
   refine J_keep (l' := []) trivial ?_
   refine J_reg ?_
   refine JN rfl rfl rfl rfl rfl ?_
   refine JL_nil ?_
   refine JQ_then_n ?_
   refine J_ret ?_
   refine JR_one rfl (rr_tmp rfl) ?_
   intro w' hw
   have ek : k = l.length := by omega
   subst ek
   have e : l = m := by rw [List.take_length] at he; rw [he, List.take_of_length_le (by omega)]
   exact ⟨by rw [decide_eq_true e], hw.bel⟩
set_option maxRecDepth 100000 in
set_option maxHeartbeats 4000000 in
theorem SameRows31 (l m : List Rw) (v u : Value) (w : World) (hl : Arr 8 eW w v l) (hm : Arr 8 eW w u m) : Calls Try.prog 31 #[v, u] w (Back (.bool (decide (l = m))) w) := by
 obtain ⟨A, cap, rfl, -, ⟨hlb, -⟩, hA⟩ := hl
 obtain ⟨A1, cap1, rfl, -, ⟨hmb, -⟩, hA1⟩ := hm
 refine J_enter (fun _ => False) (vs := [.slice A l.length cap, .slice A1 m.length cap1]) (k := 24) (l := [(0, .slice A l.length cap), (1, .slice A1 m.length cap1)]) Try.func31 rfl rfl Try.ntmps31 rfl rfl (Wd.start _) ?_
 refine J_seq ?_
 refine J_reg ?_
 refine JN rfl rfl rfl rfl rfl ?_
 refine JL_nil ?_
 refine JQ_then_n ?_
 refine J_seq ?_
 refine J_seq ?_
 refine J_reg ?_
 refine JM rfl rfl rfl rfl rfl ?_
 refine JP (rp1 rfl (fun ρ hx w => ex_len (A := _) (c := _) rfl Try.underlying45 hx)) ?_
 refine JM rfl rfl rfl rfl rfl ?_
 refine JP (rp1 rfl (fun ρ hx w => ex_len (A := _) (c := _) rfl Try.underlying45 hx)) ?_
 refine JP (rp2 rfl rfl (fun ρ hx hy w => ex_neqD rfl hx hy)) ?_
 refine JL_dec (fun h10 => ?_) (fun h10 => ?_)
 ·refine JL_nil ?_
  refine JQ_then_n ?_
  refine J_yes rfl rfl ?_
  refine J_seq ?_
  refine J_keep (l' := []) trivial ?_
  refine J_reg ?_
  refine JN rfl rfl rfl rfl rfl ?_
  refine JL_nil ?_
  refine JQ_then_n ?_
  refine J_ret ?_
  refine JQ_then_r ?_
  refine JR_one rfl (rr_tmp rfl) ?_
  intro w' hw
  exact ⟨by rw [decide_eq_false (fun e => h10 (by rw [e]))], hw.bel⟩
 ·refine JL_nil ?_
  refine JQ_then_n ?_
  refine J_no rfl rfl ?_
  refine J_skip ?_
  refine JQ_then_n ?_
  refine J_seq ?_
  refine J_seq ?_
  refine J_keep (l' := [(0, _), (1, _)]) ⟨rfl, rfl, trivial⟩ ?_
  refine J_reg ?_
  refine JN rfl rfl rfl rfl rfl ?_
  refine JL_nil ?_
  refine JQ_then_n ?_
  refine J_block ?_
  refine J_loop (T := Nat) (fun k => k ≤ l.length ∧ l.take k = m.take k) (fun k => [(0, .slice A l.length cap), (1, .slice A1 m.length cap1), (5, .int .i64 (k : Nat))]) (fun k => []) (fun k => l.length - k) 0 ⟨Nat.zero_le _, rfl⟩ ⟨rfl, rfl, rfl, trivial⟩ (by repeat constructor) ?_
  rintro k ⟨hk, he⟩
  refine J_seq ?_
  refine J_seq ?_
  refine J_reg ?_
  refine JM rfl rfl rfl rfl rfl ?_
  refine JM rfl rfl rfl rfl rfl ?_
  refine JP (rp1 rfl (fun ρ hx w => ex_len (A := _) (c := _) rfl Try.underlying45 hx)) ?_
  refine JP (rp2 rfl rfl (fun ρ hx hy w => ex_lssD rfl hx hy)) ?_
  refine JL_dec (fun h14 => ?_) (fun h14 => ?_)
  ·refine JL_nil ?_
   refine JQ_then_n ?_
   refine J_yes rfl rfl ?_
   refine J_skip ?_
   refine JQ_then_n ?_
   refine J_seq ?_
   refine J_block ?_
   refine J_seq ?_
   have hlt : k < l.length := by omega
   have hlm : l.length = m.length := by omega
   obtain ⟨b, p, rfl, hh⟩ := hA (by intro e; subst e; simp at hlt)
   obtain ⟨c, q, rfl, hi⟩ := hA1 (by intro e; rw [e] at hlm; simp only [List.length_nil] at hlm; omega)
   refine J_keep (l' := [(0, _), (1, _), (5, _)]) ⟨rfl, rfl, rfl, trivial⟩ ?_
   refine J_draw [3, 7] (by kernel_rfl) ?_
   refine JAP (i := 0) rfl (rp_move rfl rfl) ?_
   refine JAP (i := 1) rfl (rp_move rfl rfl) ?_
   refine JAP (i := 2) rfl (rp2 rfl rfl (fun ρ hx hy w => ex_indexE rfl hx hy Try.underlying45 sz_58 (by omega))) ?_
   refine JAL (i := 3) rfl (rv_holdagg (E := EW) rfl rfl ag_58 sz_58 (fun h => h) hh (by omega) rfl) ?_
   refine JAP (i := 4) rfl (rp_move rfl rfl) ?_
   refine JAP (i := 5) rfl (rp_move rfl rfl) ?_
   refine JAP (i := 6) rfl (rp2 rfl rfl (fun ρ hx hy w => ex_indexE rfl hx hy Try.underlying45 sz_58 (by omega))) ?_
   refine JAL (i := 7) rfl (rv_holdagg (E := EW) rfl rfl ag_58 sz_58 (fun h => h) hi (by omega) rfl) ?_
   refine JAP (i := 8) rfl (rp2 rfl rfl (fun ρ hx hy w => ex_neq58 (r := l[k]'hlt) (s := m[k]'(by omega)) rfl hx hy)) ?_
   refine JA_dec (fun h25 => ?_) (fun h25 => ?_)
   ·have hne : ¬ l[k]'hlt = m[k]'(by omega) := h25
    refine JA_done (by kernel_rfl) ?_
    refine JQ_then_n ?_
    refine J_yes rfl rfl ?_
    refine J_seq ?_
    refine J_keep (l' := []) trivial ?_
    refine J_reg ?_
    refine JN rfl rfl rfl rfl rfl ?_
    refine JL_nil ?_
    refine JQ_then_n ?_
    refine J_ret ?_
    refine JQ_block_r ?_
    refine JQ_then_r ?_
    refine JQ_then_r ?_
    refine JQ_block_r ?_
    refine JQ_then_r ?_
    refine JR_one rfl (rr_tmp rfl) ?_
    intro w' hw
    exact ⟨by rw [decide_eq_false (fun e => hne (by subst e; rfl))], hw.bel⟩
   ·have heq : l[k]'hlt = m[k]'(by omega) := Classical.not_not.1 h25
    refine JA_done (by kernel_rfl) ?_
    refine JQ_then_n ?_
    refine J_no rfl rfl ?_
    refine J_skip ?_
    refine JQ_block_n ?_
    refine JQ_then_n ?_
    refine J_keep (l' := [(0, _), (1, _), (5, _)]) ⟨rfl, rfl, rfl, trivial⟩ ?_
    refine J_reg ?_
    refine JM rfl rfl rfl rfl rfl ?_
    refine JP (rp2 rfl rfl (fun ρ hx hy w => ex_add rfl hx hy (by omega))) ?_
    refine JN rfl rfl rfl rfl rfl ?_
    refine JL_nil ?_
    have hsn : l.take (k + 1) = m.take (k + 1) := by rw [List.take_succ_eq_append_getElem hlt, List.take_succ_eq_append_getElem (by omega : k < m.length), he, heq]
    exact JQ_round (k + 1) ⟨by omega, hsn⟩ (by omega) ⟨rfl, rfl, (congrArg some (by go_num)), trivial⟩ (by repeat constructor)
  ·refine JL_nil ?_
   refine JQ_then_n ?_
   refine J_no rfl rfl ?_
   refine J_exit ?_
   refine JQ_then_x ?_
   refine JQ_then_x ?_
   refine JQ_block_y rfl ?_
   refine JQ_then_n ?_
   refine J_seq ?_
   refine J_keep (l' := []) trivial ?_
   refine J_reg ?_
   refine JN rfl rfl rfl rfl rfl ?_
   refine JL_nil ?_
   refine JQ_then_n ?_
   refine J_ret ?_
   refine JR_one rfl (rr_tmp rfl) ?_
   intro w' hw
   have ek : k = l.length := by omega
   subst ek
   have e : l = m := by rw [List.take_length] at he; rw [he, List.take_of_length_le (by omega)]
   exact ⟨by rw [decide_eq_true e], hw.bel⟩
set_option maxRecDepth 100000 in
set_option maxHeartbeats 4000000 in
theorem SameDraws24 (l m : List (Dv (Int × Int))) (v u : Value) (w : World) (hl : Arr 1 eD w v l) (hm : Arr 1 eD w u m) (hli : ∀ p ∈ l, Arr 2 eP w p.v p.l) (hmi : ∀ p ∈ m, Arr 2 eP w p.v p.l) : Calls Try.prog 24 #[v, u] w (Back (.bool (decide (l.map Dv.l = m.map Dv.l))) w) := by
 obtain ⟨A, cap, rfl, -, ⟨hlb, -⟩, hA⟩ := hl
 obtain ⟨A1, cap1, rfl, -, ⟨hmb, -⟩, hA1⟩ := hm
 refine J_enter (fun _ => False) (vs := [.slice A l.length cap, .slice A1 m.length cap1]) (k := 25) (l := [(0, .slice A l.length cap), (1, .slice A1 m.length cap1)]) Try.func24 rfl rfl Try.ntmps24 rfl rfl (Wd.start _) ?_
 refine J_seq ?_
 refine J_reg ?_
 refine JN rfl rfl rfl rfl rfl ?_
 refine JL_nil ?_
 refine JQ_then_n ?_
 refine J_seq ?_
 refine J_seq ?_
 refine J_reg ?_
 refine JM rfl rfl rfl rfl rfl ?_
 refine JP (rp1 rfl (fun ρ hx w => ex_len (A := _) (c := _) rfl Try.underlying35 hx)) ?_
 refine JM rfl rfl rfl rfl rfl ?_
 refine JP (rp1 rfl (fun ρ hx w => ex_len (A := _) (c := _) rfl Try.underlying35 hx)) ?_
 refine JP (rp2 rfl rfl (fun ρ hx hy w => ex_neqD rfl hx hy)) ?_
 refine JL_dec (fun h10 => ?_) (fun h10 => ?_)
 ·refine JL_nil ?_
  refine JQ_then_n ?_
  refine J_yes rfl rfl ?_
  refine J_seq ?_
  refine J_keep (l' := []) trivial ?_
  refine J_reg ?_
  refine JN rfl rfl rfl rfl rfl ?_
  refine JL_nil ?_
  refine JQ_then_n ?_
  refine J_ret ?_
  refine JQ_then_r ?_
  refine JR_one rfl (rr_tmp rfl) ?_
  intro w' hw
  exact ⟨by rw [decide_eq_false (fun e => h10 (by have := congrArg List.length e; rw [List.length_map, List.length_map] at this; rw [this]))], hw.bel⟩
 ·refine JL_nil ?_
  refine JQ_then_n ?_
  refine J_no rfl rfl ?_
  refine J_skip ?_
  refine JQ_then_n ?_
  refine J_seq ?_
  refine J_seq ?_
  refine J_keep (l' := [(0, _), (1, _)]) ⟨rfl, rfl, trivial⟩ ?_
  refine J_reg ?_
  refine JN rfl rfl rfl rfl rfl ?_
  refine JL_nil ?_
  refine JQ_then_n ?_
  refine J_block ?_
  refine J_loop (T := Nat) (fun k => k ≤ l.length ∧ (l.take k).map Dv.l = (m.take k).map Dv.l) (fun k => [(0, .slice A l.length cap), (1, .slice A1 m.length cap1), (5, .int .i64 (k : Nat))]) (fun k => []) (fun k => l.length - k) 0 ⟨Nat.zero_le _, rfl⟩ ⟨rfl, rfl, rfl, trivial⟩ (by repeat constructor) ?_
  rintro k ⟨hk, he⟩
  refine J_seq ?_
  refine J_seq ?_
  refine J_reg ?_
  refine JM rfl rfl rfl rfl rfl ?_
  refine JM rfl rfl rfl rfl rfl ?_
  refine JP (rp1 rfl (fun ρ hx w => ex_len (A := _) (c := _) rfl Try.underlying35 hx)) ?_
  refine JP (rp2 rfl rfl (fun ρ hx hy w => ex_lssD rfl hx hy)) ?_
  refine JL_dec (fun h14 => ?_) (fun h14 => ?_)
  ·refine JL_nil ?_
   refine JQ_then_n ?_
   refine J_yes rfl rfl ?_
   refine J_skip ?_
   refine JQ_then_n ?_
   refine J_seq ?_
   refine J_block ?_
   refine J_seq ?_
   have hlt : k < l.length := by omega
   have hlm : k < m.length := by omega
   obtain ⟨b, p, rfl, hh⟩ := hA (by intro e; subst e; simp at hlt)
   obtain ⟨c, q, rfl, hi⟩ := hA1 (by intro e; rw [e] at hlm; simp at hlm)
   refine J_keep (l' := [(0, _), (1, _), (5, _)]) ⟨rfl, rfl, rfl, trivial⟩ ?_
   refine J_draw [3, 7] (by kernel_rfl) ?_
   refine JAP (i := 0) rfl (rp_move rfl rfl) ?_
   refine JAP (i := 1) rfl (rp_move rfl rfl) ?_
   refine JAP (i := 2) rfl (rp2 rfl rfl (fun ρ hx hy w => ex_indexE rfl hx hy Try.underlying35 sz_41 (by omega))) ?_
   refine JAL (i := 3) rfl (rv_hold rfl rfl ag_41 (fun h => h) hh (by omega) (by omega) rfl) ?_
   refine JAP (i := 4) rfl (rp_move rfl rfl) ?_
   refine JAP (i := 5) rfl (rp_move rfl rfl) ?_
   refine JAP (i := 6) rfl (rp2 rfl rfl (fun ρ hx hy w => ex_indexE rfl hx hy Try.underlying35 sz_41 (by omega))) ?_
   refine JAL (i := 7) rfl (rv_hold rfl rfl ag_41 (fun h => h) hi (by omega) (by omega) rfl) ?_
   refine JA_one (i := 8) (by kernel_rfl) rfl (wn0 rfl) (ow_callB (ec_fn rfl rfl cf_32) rfl rfl (fun w hw => SamePairs32 (l[k]'hlt).l (m[k]'hlm).l _ _ w ((hli _ (List.getElem_mem _)).up EP hw.bel) ((hmi _ (List.getElem_mem _)).up EP hw.bel))) trivial (fun _ _ => ?_)
   refine JA_dec (fun h25 => ?_) (fun h25 => ?_)
   ·refine JAP (i := 9) rfl (rp1 rfl (fun ρ hx w => ex_not rfl hx)) ?_
    refine JA_done (by kernel_rfl) ?_
    refine JQ_then_n ?_
    refine J_no rfl rfl ?_
    refine J_skip ?_
    refine JQ_block_n ?_
    refine JQ_then_n ?_
    refine J_keep (l' := [(0, _), (1, _), (5, _)]) ⟨rfl, rfl, rfl, trivial⟩ ?_
    refine J_reg ?_
    refine JM rfl rfl rfl rfl rfl ?_
    refine JP (rp2 rfl rfl (fun ρ hx hy w => ex_add rfl hx hy (by omega))) ?_
    refine JN rfl rfl rfl rfl rfl ?_
    refine JL_nil ?_
    have hsn : (l.take (k + 1)).map Dv.l = (m.take (k + 1)).map Dv.l := by rw [List.take_succ_eq_append_getElem hlt, List.take_succ_eq_append_getElem hlm, List.map_append, List.map_append, he, List.map_singleton, List.map_singleton, h25]
    exact JQ_round (k + 1) ⟨by omega, hsn⟩ (by omega) ⟨rfl, rfl, (congrArg some (by go_num)), trivial⟩ (by repeat constructor)
   ·refine JAP (i := 9) rfl (rp1 rfl (fun ρ hx w => ex_not rfl hx)) ?_
    refine JA_done (by kernel_rfl) ?_
    refine JQ_then_n ?_
    refine J_yes rfl rfl ?_
    refine J_seq ?_
    refine J_keep (l' := []) trivial ?_
    refine J_reg ?_
    refine JN rfl rfl rfl rfl rfl ?_
    refine JL_nil ?_
    refine JQ_then_n ?_
    refine J_ret ?_
    refine JQ_block_r ?_
    refine JQ_then_r ?_
    refine JQ_then_r ?_
    refine JQ_block_r ?_
    refine JQ_then_r ?_
    refine JR_one rfl (rr_tmp rfl) ?_
    intro w' hw
    exact ⟨by rw [decide_eq_false (fun e => h25 (by
     have h1 : (l.map Dv.l)[k]'(by rw [List.length_map]; exact hlt) = (m.map Dv.l)[k]'(by rw [List.length_map]; exact hlm) := by simp only [e]
     rw [List.getElem_map, List.getElem_map] at h1; exact h1))], hw.bel⟩
  ·refine JL_nil ?_
   refine JQ_then_n ?_
   refine J_no rfl rfl ?_
   refine J_exit ?_
   refine JQ_then_x ?_
   refine JQ_then_x ?_
   refine JQ_block_y rfl ?_
   refine JQ_then_n ?_
   refine J_seq ?_
   refine J_keep (l' := []) trivial ?_
   refine J_reg ?_
   refine JN rfl rfl rfl rfl rfl ?_
   refine JL_nil ?_
   refine JQ_then_n ?_
   refine J_ret ?_
   refine JR_one rfl (rr_tmp rfl) ?_
   intro w' hw
   have ek : k = l.length := by omega
   subst ek
   have e : l.map Dv.l = m.map Dv.l := by rw [List.take_length] at he; rw [he, List.take_of_length_le (by omega)]
   exact ⟨by rw [decide_eq_true e], hw.bel⟩
def keysR (l : List Re) (k : Nat) : List (Int × Int) := ((l.take k).map keyR).reverse
theorem keysR_succ (l : List Re) (k : Nat) (h : k < l.length) : keysR l (k + 1) = keyR (l[k]'h) :: keysR l k := by
 unfold keysR; rw [List.take_succ_eq_append_getElem h, List.map_append, List.reverse_append]; rfl
theorem keysR_has (l : List Re) (k : Nat) (x : Int × Int) : (keysR l k).contains x = true ↔ ∃ i, ∃ h : i < l.length, i < k ∧ keyR (l[i]'h) = x := by
 unfold keysR
 simp only [List.contains_eq_mem, decide_eq_true_eq, List.mem_reverse, List.mem_map]
 constructor
 ·rintro ⟨y, hy, rfl⟩
  obtain ⟨i, hi, rfl⟩ := List.getElem_of_mem hy
  rw [List.length_take] at hi
  exact ⟨i, by omega, by omega, by rw [List.getElem_take]⟩
 ·rintro ⟨i, h, hk, rfl⟩
  exact ⟨l[i]'h, by
   have : (l.take k)[i]'(by rw [List.length_take]; omega) = l[i]'h := List.getElem_take ..
   rw [← this]; exact List.getElem_mem _, rfl⟩
set_option maxRecDepth 100000 in
set_option maxHeartbeats 4000000 in
theorem Check30 (T : Int) (l : List Re) (v : Value) (w : World) (hrow : Arr 6 eR w v l) : Calls Try.prog 30 #[.int .i64 T, v] w (Back (.int .i64 (chkE T l)) w) := by
 obtain ⟨A, cap, rfl, -, ⟨hlb, -⟩, hA⟩ := hrow
 refine J_enter (fun _ => False) (vs := [.int .i64 T, .slice A l.length cap]) (k := 93) (l := [(0, .int .i64 T), (1, .slice A l.length cap)]) Try.func30 rfl rfl Try.ntmps30 rfl rfl (Wd.start _) ?_
 refine J_seq ?_
 refine J_reg ?_
 refine JN rfl rfl rfl rfl rfl ?_
 refine JL_nil ?_
 refine JQ_then_n ?_
 refine J_seq ?_
 refine J_seq ?_
 refine J_reg ?_
 refine JM rfl rfl rfl rfl rfl ?_
 refine JL_op (wn0 rfl) (ow_callP (ec_fn rfl rfl cf_52) rfl rfl (fun w hw => in52 _ _ _ _)) (fun _ _ => ?_)
 refine JL_dec (fun h10 => ?_) (fun h10 => ?_)
 ·refine JP (rp1 rfl (fun ρ hx w => ex_not rfl hx)) ?_
  refine JL_nil ?_
  refine JQ_then_n ?_
  refine J_no rfl rfl ?_
  refine J_skip ?_
  refine JQ_then_n ?_
  refine J_seq ?_
  refine J_seq ?_
  refine J_keep (l' := [(0, _), (1, _)]) ⟨rfl, rfl, trivial⟩ ?_
  refine J_reg ?_
  refine JM rfl rfl rfl rfl rfl ?_
  refine JP (rp1 rfl (fun ρ hx w => ex_len (A := _) (c := _) rfl Try.underlying44 hx)) ?_
  refine JP (rp2 rfl rfl (fun ρ hx hy w => ex_gtrD rfl hx hy)) ?_
  refine JL_dec (fun h14 => ?_) (fun h14 => ?_)
  ·refine JL_nil ?_
   refine JQ_then_n ?_
   refine J_yes rfl rfl ?_
   refine J_seq ?_
   refine J_keep (l' := []) trivial ?_
   refine J_reg ?_
   refine JN rfl rfl rfl rfl rfl ?_
   refine JL_nil ?_
   refine JQ_then_n ?_
   refine J_ret ?_
   refine JQ_then_r ?_
   refine JR_one rfl (rr_tmp rfl) ?_
   intro w' hw
   exact ⟨by unfold chkE; rw [if_neg (by simpa using h10), if_pos (by omega)], hw.bel⟩
  ·refine JL_nil ?_
   refine JQ_then_n ?_
   refine J_no rfl rfl ?_
   refine J_skip ?_
   refine JQ_then_n ?_
   refine J_seq ?_
   refine J_seq ?_
   refine J_reg ?_
   refine JN rfl rfl rfl rfl rfl ?_
   refine JL_nil ?_
   refine JQ_then_n ?_
   refine J_block ?_
   refine J_loop (T := Nat) (fun k => k ≤ l.length ∧ okR T (keysR l k) (l.drop k) = okR T [] l) (fun k => [(0, .int .i64 T), (1, .slice A l.length cap), (5, .int .i64 (k : Nat))]) (fun k => []) (fun k => l.length - k) 0 ⟨Nat.zero_le _, rfl⟩ ⟨rfl, rfl, rfl, trivial⟩ (by repeat constructor) ?_
   rintro k ⟨hk, hok⟩
   refine J_seq ?_
   refine J_seq ?_
   refine J_reg ?_
   refine JM rfl rfl rfl rfl rfl ?_
   refine JM rfl rfl rfl rfl rfl ?_
   refine JP (rp1 rfl (fun ρ hx w => ex_len (A := _) (c := _) rfl Try.underlying44 hx)) ?_
   refine JP (rp2 rfl rfl (fun ρ hx hy w => ex_lssD rfl hx hy)) ?_
   refine JL_dec (fun h18 => ?_) (fun h18 => ?_)
   ·refine JL_nil ?_
    refine JQ_then_n ?_
    refine J_yes rfl rfl ?_
    refine J_skip ?_
    refine JQ_then_n ?_
    refine J_seq ?_
    refine J_block ?_
    refine J_seq ?_
    have hlt : k < l.length := by omega
    obtain ⟨b, p, rfl, hh⟩ := hA (by intro e; subst e; simp at hlt)
    have hst : okR T (keysR l k) (l.drop k) = (vldB T (l[k]'hlt) && !(keysR l k).contains (keyR (l[k]'hlt)) && okR T (keyR (l[k]'hlt) :: keysR l k) (l.drop (k + 1))) := by rw [List.drop_eq_getElem_cons hlt]; rfl
    refine J_keep (l' := [(0, _), (1, _), (5, _)]) ⟨rfl, rfl, rfl, trivial⟩ ?_
    refine J_reg ?_
    refine JM rfl rfl rfl rfl rfl ?_
    refine JM rfl rfl rfl rfl rfl ?_
    refine JP (rp2 rfl rfl (fun ρ hx hy w => ex_indexE rfl hx hy Try.underlying44 sz_56 (by omega))) ?_
    refine JV (rv_holdagg (E := ER) rfl rfl ag_56 sz_56 (fun h => h) hh (by omega) rfl) ?_
    refine JL_op (wn0 rfl) (ow_alloc rfl rfl zv_56 rfl rfl) (fun b6 hb6 => ?_)
    refine JL_op (wn0 rfl) (ow_store (cs := [_, _, _, _, _, _]) (vs' := [_, _, _, _, _, _]) rfl rfl rfl rfl rfl sz_56 rfl (by repeat constructor) (by rfl) (by rfl)) (fun _ _ => ?_)
    refine JL_nil ?_
    refine JQ_then_n ?_
    refine J_seq ?_
    refine J_seq ?_
    obtain ⟨x, hx⟩ : ∃ x, l[k]'hlt = x := ⟨_, rfl⟩
    rw [hx] at hst ⊢
    refine J_keep (l' := [(0, _), (1, _), (5, _), (6, _)]) ⟨rfl, rfl, rfl, rfl, trivial⟩ ?_
    refine J_reg ?_
    refine JP (rp_fieldC (off' := 0) rfl rfl fa_56_0 rfl) ?_
    refine JV (rv_cell rfl rfl ag_3 (by repeat constructor) (by rfl)) ?_
    refine JM rfl rfl rfl rfl rfl ?_
    refine JP (rp2 rfl rfl (fun ρ hx hy w => ex_sub rfl hx hy (by omega))) ?_
    refine JL_op (wn0 rfl) (ow_callP (ec_fn rfl rfl cf_52) rfl rfl (fun w hw => in52 _ _ _ _)) (fun _ _ => ?_)
    refine JL_dec (fun h29 => ?_) (fun h29 => ?_)
    ·refine JP (rp1 rfl (fun ρ hx w => ex_not rfl hx)) ?_
     refine JM rfl rfl rfl rfl rfl ?_
     refine JPg (rp_fieldC (off' := 1) rfl rfl fa_56_1 rfl) ?_
     refine JVg (rv_cell rfl rfl ag_3 (by repeat constructor) (by rfl)) ?_
     refine JPg (rp_move rfl rfl) ?_
     refine JPg (rp2 rfl rfl (fun ρ hx hy w => ex_sub rfl hx hy (by omega))) ?_
     refine JL_op (wn_g rfl rfl rfl rfl) (ow_callP (ec_fn rfl rfl cf_52) rfl rfl (fun w hw => in52 _ _ _ _)) (fun _ _ => ?_)
     refine JL_dec (fun h36 => ?_) (fun h36 => ?_)
     ·refine JPg (rp1 rfl (fun ρ hx w => ex_not rfl hx)) ?_
      refine JP (rp_pickF rfl rfl rfl) ?_
      refine JM rfl rfl rfl rfl rfl ?_
      refine JPg (rp_fieldC (off' := 0) rfl rfl fa_56_0 rfl) ?_
      refine JVg (rv_cell rfl rfl ag_3 (by repeat constructor) (by rfl)) ?_
      refine JPg (rp_fieldC (off' := 1) rfl rfl fa_56_1 rfl) ?_
      refine JVg (rv_cell rfl rfl ag_3 (by repeat constructor) (by rfl)) ?_
      refine JPg (rp2 rfl rfl (fun ρ hx hy w => ex_eqlD rfl hx hy)) ?_
      refine JL_dec (fun h44 => ?_) (fun h44 => ?_)
      ·refine JP (rp_pickF rfl rfl rfl) ?_
       refine JM rfl rfl rfl rfl rfl ?_
       refine JF ?_
       refine JF ?_
       refine JF ?_
       refine JF ?_
       refine JF ?_
       refine JF ?_
       refine JF ?_
       refine JP (rp_pickT rfl rfl rfl) ?_
       refine JL_nil ?_
       refine JQ_then_n ?_
       refine J_yes rfl rfl ?_
       refine J_seq ?_
       refine J_keep (l' := []) trivial ?_
       refine J_reg ?_
       refine JN rfl rfl rfl rfl rfl ?_
       refine JL_nil ?_
       refine JQ_then_n ?_
       refine J_ret ?_
       refine JQ_then_r ?_
       refine JQ_block_r ?_
       refine JQ_then_r ?_
       refine JQ_then_r ?_
       refine JQ_block_r ?_
       refine JQ_then_r ?_
       refine JR_one rfl (rr_tmp rfl) ?_
       intro w' hw
       have hv : vldB T x = false := decide_eq_false (by omega)
       have e : okR T [] l = false := by rw [← hok, hst, hv]; rfl
       exact ⟨by unfold chkE; rw [if_neg (by simpa using h10), if_neg (by omega), e]; rfl, hw.bel⟩
      ·refine JP (rp_pickF rfl rfl rfl) ?_
       refine JM rfl rfl rfl rfl rfl ?_
       refine JPg (rp_fieldC (off' := 2) rfl rfl fa_56_2 rfl) ?_
       refine JPg (rp_arrC (off' := 2) rfl rfl rfl ia_42_0 rfl) ?_
       refine JVg (rv_cell rfl rfl ag_3 (by repeat constructor) (by rfl)) ?_
       refine JPg (rp_fieldC (off' := 2) rfl rfl fa_56_2 rfl) ?_
       refine JPg (rp_arrC (off' := 3) rfl rfl rfl ia_42_1 rfl) ?_
       refine JVg (rv_cell rfl rfl ag_3 (by repeat constructor) (by rfl)) ?_
       refine JPg (rp2 rfl rfl (fun ρ hx hy w => ex_eqlD rfl hx hy)) ?_
       refine JL_dec (fun h53 => ?_) (fun h53 => ?_)
       ·refine JP (rp_pickF rfl rfl rfl) ?_
        refine JL_nil ?_
        refine JQ_then_n ?_
        refine J_yes rfl rfl ?_
        refine J_seq ?_
        refine J_keep (l' := []) trivial ?_
        refine J_reg ?_
        refine JN rfl rfl rfl rfl rfl ?_
        refine JL_nil ?_
        refine JQ_then_n ?_
        refine J_ret ?_
        refine JQ_then_r ?_
        refine JQ_block_r ?_
        refine JQ_then_r ?_
        refine JQ_then_r ?_
        refine JQ_block_r ?_
        refine JQ_then_r ?_
        refine JR_one rfl (rr_tmp rfl) ?_
        intro w' hw
        have hv : vldB T x = false := decide_eq_false (by omega)
        have e : okR T [] l = false := by rw [← hok, hst, hv]; rfl
        exact ⟨by unfold chkE; rw [if_neg (by simpa using h10), if_neg (by omega), e]; rfl, hw.bel⟩
       ·refine JP (rp_pickF rfl rfl rfl) ?_
        refine JL_nil ?_
        refine JQ_then_n ?_
        refine J_no rfl rfl ?_
        refine J_skip ?_
        refine JQ_then_n ?_
        refine J_seq ?_
        refine J_seq ?_
        refine J_keep (l' := [(0, _), (1, _), (5, _), (6, _)]) ⟨rfl, rfl, rfl, rfl, trivial⟩ ?_
        refine J_reg ?_
        refine JN rfl rfl rfl rfl rfl ?_
        refine JL_nil ?_
        refine JQ_then_n ?_
        refine J_block ?_
        refine J_loop (T := Nat) (fun s => s ≤ 2 ∧ (1 ≤ s → (0 ≤ x.p0 ∧ x.p0 ≤ 1000) ∧ 0 ≤ x.m0 ∧ x.m0 ≤ 100000) ∧ (2 ≤ s → (0 ≤ x.p1 ∧ x.p1 ≤ 1000) ∧ 0 ≤ x.m1 ∧ x.m1 ≤ 100000)) (fun s => [(0, .int .i64 T), (1, .slice (some ⟨b, p, none⟩) l.length cap), (5, .int .i64 (k : Nat)), (6, .pointer (some ⟨b6, 0, none⟩)), (7, .int .i64 (s : Nat))]) (fun s => [cellB b6 [.int .i64 x.a, .int .i64 x.b, .int .i64 x.p0, .int .i64 x.p1, .int .i64 x.m0, .int .i64 x.m1] 56]) (fun s => 2 - s) 0 ⟨Nat.zero_le _, by omega, by omega⟩ ⟨rfl, rfl, rfl, rfl, rfl, trivial⟩ (by repeat constructor) ?_
        rintro s ⟨hs, hs1, hs2⟩
        refine J_seq ?_
        refine J_seq ?_
        rcases (show s = 0 ∨ s = 1 ∨ s = 2 by omega) with h0 | h0 | h0
        ·subst h0
         refine J_reg ?_
         refine JM rfl rfl rfl rfl rfl ?_
         refine JP (rp2 rfl rfl (fun ρ hx hy w => ex_lssD rfl hx hy)) ?_
         refine JL_decT (by omega) ?_
         refine JL_nil ?_
         refine JQ_then_n ?_
         refine J_yes rfl rfl ?_
         refine J_skip ?_
         refine JQ_then_n ?_
         refine J_seq ?_
         refine J_block ?_
         refine J_seq ?_
         refine J_reg ?_
         refine JM rfl rfl rfl rfl rfl ?_
         refine JP (rp_fieldC (off' := 2) rfl rfl fa_56_2 rfl) ?_
         refine JP (rp_arrC (off' := 2) rfl rfl rfl ia_42_0 rfl) ?_
         refine JV (rv_cell rfl rfl ag_3 (by repeat constructor) (by rfl)) ?_
         refine JL_op (wn0 rfl) (ow_callP (ec_fn rfl rfl cf_52) rfl rfl (fun w hw => in52 _ _ _ _)) (fun _ _ => ?_)
         refine JL_dec (fun h63 => ?_) (fun h63 => ?_)
         ·refine JP (rp1 rfl (fun ρ hx w => ex_not rfl hx)) ?_
          refine JM rfl rfl rfl rfl rfl ?_
          refine JPg (rp_move rfl rfl) ?_
          refine JPg (rp_fieldC (off' := 4) rfl rfl fa_56_3 rfl) ?_
          refine JPg (rp_arrC (off' := 4) rfl rfl rfl ia_42_0 rfl) ?_
          refine JVg (rv_cell rfl rfl ag_3 (by repeat constructor) (by rfl)) ?_
          refine JL_op (wn_g rfl rfl rfl rfl) (ow_callP (ec_fn rfl rfl cf_52) rfl rfl (fun w hw => in52 _ _ _ _)) (fun _ _ => ?_)
          refine JL_dec (fun h70 => ?_) (fun h70 => ?_)
          ·refine JPg (rp1 rfl (fun ρ hx w => ex_not rfl hx)) ?_
           refine JP (rp_pickF rfl rfl rfl) ?_
           refine JL_nil ?_
           refine JQ_then_n ?_
           refine J_no rfl rfl ?_
           refine J_skip ?_
           refine JQ_block_n ?_
           refine JQ_then_n ?_
           refine J_keep (l' := [(0, _), (1, _), (5, _), (6, _), (7, _)]) ⟨rfl, rfl, rfl, rfl, rfl, trivial⟩ ?_
           refine J_reg ?_
           refine JM rfl rfl rfl rfl rfl ?_
           refine JP (rp2 rfl rfl (fun ρ hx hy w => ex_add rfl hx hy (by omega))) ?_
           refine JN rfl rfl rfl rfl rfl ?_
           refine JL_nil ?_
           exact JQ_round (0 + 1) ⟨by omega, by omega, by omega⟩ (by omega) ⟨rfl, rfl, rfl, rfl, (congrArg some (by go_num)), trivial⟩ (by repeat constructor)
          ·refine JPg (rp1 rfl (fun ρ hx w => ex_not rfl hx)) ?_
           refine JP (rp_pickF rfl rfl rfl) ?_
           refine JL_nil ?_
           refine JQ_then_n ?_
           refine J_yes rfl rfl ?_
           refine J_seq ?_
           refine J_keep (l' := []) trivial ?_
           refine J_reg ?_
           refine JN rfl rfl rfl rfl rfl ?_
           refine JL_nil ?_
           refine JQ_then_n ?_
           refine J_ret ?_
           refine JQ_block_r ?_
           refine JQ_then_r ?_
           refine JQ_then_r ?_
           refine JQ_block_r ?_
           refine JQ_then_r ?_
           refine JQ_block_r ?_
           refine JQ_then_r ?_
           refine JQ_then_r ?_
           refine JQ_block_r ?_
           refine JQ_then_r ?_
           refine JR_one rfl (rr_tmp rfl) ?_
           intro w' hw
           have hv : vldB T x = false := decide_eq_false (by omega)
           have e : okR T [] l = false := by rw [← hok, hst, hv]; rfl
           exact ⟨by unfold chkE; rw [if_neg (by simpa using h10), if_neg (by omega), e]; rfl, hw.bel⟩
         ·refine JP (rp1 rfl (fun ρ hx w => ex_not rfl hx)) ?_
          refine JM rfl rfl rfl rfl rfl ?_
          refine JF ?_
          refine JF ?_
          refine JF ?_
          refine JF ?_
          refine JF ?_
          refine JF ?_
          refine JP (rp_pickT rfl rfl rfl) ?_
          refine JL_nil ?_
          refine JQ_then_n ?_
          refine J_yes rfl rfl ?_
          refine J_seq ?_
          refine J_keep (l' := []) trivial ?_
          refine J_reg ?_
          refine JN rfl rfl rfl rfl rfl ?_
          refine JL_nil ?_
          refine JQ_then_n ?_
          refine J_ret ?_
          refine JQ_block_r ?_
          refine JQ_then_r ?_
          refine JQ_then_r ?_
          refine JQ_block_r ?_
          refine JQ_then_r ?_
          refine JQ_block_r ?_
          refine JQ_then_r ?_
          refine JQ_then_r ?_
          refine JQ_block_r ?_
          refine JQ_then_r ?_
          refine JR_one rfl (rr_tmp rfl) ?_
          intro w' hw
          have hv : vldB T x = false := decide_eq_false (by omega)
          have e : okR T [] l = false := by rw [← hok, hst, hv]; rfl
          exact ⟨by unfold chkE; rw [if_neg (by simpa using h10), if_neg (by omega), e]; rfl, hw.bel⟩
        ·subst h0
         refine J_reg ?_
         refine JM rfl rfl rfl rfl rfl ?_
         refine JP (rp2 rfl rfl (fun ρ hx hy w => ex_lssD rfl hx hy)) ?_
         refine JL_decT (by omega) ?_
         refine JL_nil ?_
         refine JQ_then_n ?_
         refine J_yes rfl rfl ?_
         refine J_skip ?_
         refine JQ_then_n ?_
         refine J_seq ?_
         refine J_block ?_
         refine J_seq ?_
         refine J_reg ?_
         refine JM rfl rfl rfl rfl rfl ?_
         refine JP (rp_fieldC (off' := 2) rfl rfl fa_56_2 rfl) ?_
         refine JP (rp_arrC (off' := 3) rfl rfl rfl ia_42_1 rfl) ?_
         refine JV (rv_cell rfl rfl ag_3 (by repeat constructor) (by rfl)) ?_
         refine JL_op (wn0 rfl) (ow_callP (ec_fn rfl rfl cf_52) rfl rfl (fun w hw => in52 _ _ _ _)) (fun _ _ => ?_)
         refine JL_dec (fun h63 => ?_) (fun h63 => ?_)
         ·refine JP (rp1 rfl (fun ρ hx w => ex_not rfl hx)) ?_
          refine JM rfl rfl rfl rfl rfl ?_
          refine JPg (rp_move rfl rfl) ?_
          refine JPg (rp_fieldC (off' := 4) rfl rfl fa_56_3 rfl) ?_
          refine JPg (rp_arrC (off' := 5) rfl rfl rfl ia_42_1 rfl) ?_
          refine JVg (rv_cell rfl rfl ag_3 (by repeat constructor) (by rfl)) ?_
          refine JL_op (wn_g rfl rfl rfl rfl) (ow_callP (ec_fn rfl rfl cf_52) rfl rfl (fun w hw => in52 _ _ _ _)) (fun _ _ => ?_)
          refine JL_dec (fun h70 => ?_) (fun h70 => ?_)
          ·refine JPg (rp1 rfl (fun ρ hx w => ex_not rfl hx)) ?_
           refine JP (rp_pickF rfl rfl rfl) ?_
           refine JL_nil ?_
           refine JQ_then_n ?_
           refine J_no rfl rfl ?_
           refine J_skip ?_
           refine JQ_block_n ?_
           refine JQ_then_n ?_
           refine J_keep (l' := [(0, _), (1, _), (5, _), (6, _), (7, _)]) ⟨rfl, rfl, rfl, rfl, rfl, trivial⟩ ?_
           refine J_reg ?_
           refine JM rfl rfl rfl rfl rfl ?_
           refine JP (rp2 rfl rfl (fun ρ hx hy w => ex_add rfl hx hy (by omega))) ?_
           refine JN rfl rfl rfl rfl rfl ?_
           refine JL_nil ?_
           exact JQ_round (1 + 1) ⟨by omega, by omega, by omega⟩ (by omega) ⟨rfl, rfl, rfl, rfl, (congrArg some (by go_num)), trivial⟩ (by repeat constructor)
          ·refine JPg (rp1 rfl (fun ρ hx w => ex_not rfl hx)) ?_
           refine JP (rp_pickF rfl rfl rfl) ?_
           refine JL_nil ?_
           refine JQ_then_n ?_
           refine J_yes rfl rfl ?_
           refine J_seq ?_
           refine J_keep (l' := []) trivial ?_
           refine J_reg ?_
           refine JN rfl rfl rfl rfl rfl ?_
           refine JL_nil ?_
           refine JQ_then_n ?_
           refine J_ret ?_
           refine JQ_block_r ?_
           refine JQ_then_r ?_
           refine JQ_then_r ?_
           refine JQ_block_r ?_
           refine JQ_then_r ?_
           refine JQ_block_r ?_
           refine JQ_then_r ?_
           refine JQ_then_r ?_
           refine JQ_block_r ?_
           refine JQ_then_r ?_
           refine JR_one rfl (rr_tmp rfl) ?_
           intro w' hw
           have hv : vldB T x = false := decide_eq_false (by omega)
           have e : okR T [] l = false := by rw [← hok, hst, hv]; rfl
           exact ⟨by unfold chkE; rw [if_neg (by simpa using h10), if_neg (by omega), e]; rfl, hw.bel⟩
         ·refine JP (rp1 rfl (fun ρ hx w => ex_not rfl hx)) ?_
          refine JM rfl rfl rfl rfl rfl ?_
          refine JF ?_
          refine JF ?_
          refine JF ?_
          refine JF ?_
          refine JF ?_
          refine JF ?_
          refine JP (rp_pickT rfl rfl rfl) ?_
          refine JL_nil ?_
          refine JQ_then_n ?_
          refine J_yes rfl rfl ?_
          refine J_seq ?_
          refine J_keep (l' := []) trivial ?_
          refine J_reg ?_
          refine JN rfl rfl rfl rfl rfl ?_
          refine JL_nil ?_
          refine JQ_then_n ?_
          refine J_ret ?_
          refine JQ_block_r ?_
          refine JQ_then_r ?_
          refine JQ_then_r ?_
          refine JQ_block_r ?_
          refine JQ_then_r ?_
          refine JQ_block_r ?_
          refine JQ_then_r ?_
          refine JQ_then_r ?_
          refine JQ_block_r ?_
          refine JQ_then_r ?_
          refine JR_one rfl (rr_tmp rfl) ?_
          intro w' hw
          have hv : vldB T x = false := decide_eq_false (by omega)
          have e : okR T [] l = false := by rw [← hok, hst, hv]; rfl
          exact ⟨by unfold chkE; rw [if_neg (by simpa using h10), if_neg (by omega), e]; rfl, hw.bel⟩
        ·subst h0
         refine J_reg ?_
         refine JM rfl rfl rfl rfl rfl ?_
         refine JP (rp2 rfl rfl (fun ρ hx hy w => ex_lssD rfl hx hy)) ?_
         refine JL_decF (by omega) ?_
         refine JL_nil ?_
         refine JQ_then_n ?_
         refine J_no rfl rfl ?_
         refine J_exit ?_
         refine JQ_then_x ?_
         refine JQ_then_x ?_
         refine JQ_block_y rfl ?_
         refine JQ_then_n ?_
         refine J_seq ?_
         have hv : vldB T x = true := decide_eq_true (by omega)
         refine J_reg ?_
         refine JN rfl rfl rfl rfl rfl ?_
         refine JL_nil ?_
         refine JQ_then_n ?_
         refine J_block ?_
         refine J_loop (T := Nat) (fun j => j ≤ k ∧ ∀ i (h : i < l.length), i < j → keyR (l[i]'h) ≠ keyR x) (fun j => [(0, .int .i64 T), (1, .slice (some ⟨b, p, none⟩) l.length cap), (5, .int .i64 (k : Nat)), (6, .pointer (some ⟨b6, 0, none⟩)), (8, .int .i64 (j : Nat))]) (fun j => [cellB b6 [.int .i64 x.a, .int .i64 x.b, .int .i64 x.p0, .int .i64 x.p1, .int .i64 x.m0, .int .i64 x.m1] 56]) (fun j => k - j) 0 ⟨Nat.zero_le _, fun i h hi => absurd hi (by omega)⟩ ⟨rfl, rfl, rfl, rfl, rfl, trivial⟩ (by repeat constructor) ?_
         rintro j ⟨hj, hne⟩
         refine J_seq ?_
         refine J_seq ?_
         refine J_reg ?_
         refine JM rfl rfl rfl rfl rfl ?_
         refine JM rfl rfl rfl rfl rfl ?_
         refine JP (rp2 rfl rfl (fun ρ hx hy w => ex_lssD rfl hx hy)) ?_
         refine JL_dec (fun h75 => ?_) (fun h75 => ?_)
         ·refine JL_nil ?_
          refine JQ_then_n ?_
          refine J_yes rfl rfl ?_
          refine J_skip ?_
          refine JQ_then_n ?_
          refine J_seq ?_
          refine J_block ?_
          refine J_seq ?_
          have hjl : j < l.length := by omega
          refine J_draw [4, 9, 12, 14] (by kernel_rfl) ?_
          refine JAP (i := 0) rfl (rp_move rfl rfl) ?_
          refine JAP (i := 1) rfl (rp_move rfl rfl) ?_
          refine JAP (i := 2) rfl (rp2 rfl rfl (fun ρ hx hy w => ex_indexE rfl hx hy Try.underlying44 sz_56 (by omega))) ?_
          refine JAP (i := 3) rfl (rp_fieldE (i' := 0) rfl rfl fa_56_0 rfl) ?_
          refine JAL (i := 4) rfl (rv_hold rfl rfl ag_3 (fun h => h) hh (by omega) (by omega) rfl) ?_
          refine JAP (i := 5) rfl (rp_move rfl rfl) ?_
          refine JAP (i := 6) rfl (rp_move rfl rfl) ?_
          refine JAP (i := 7) rfl (rp2 rfl rfl (fun ρ hx hy w => ex_indexE rfl hx hy Try.underlying44 sz_56 (by omega))) ?_
          refine JAP (i := 8) rfl (rp_fieldE (i' := 1) rfl rfl fa_56_1 rfl) ?_
          refine JAL (i := 9) rfl (rv_hold rfl rfl ag_3 (fun h => h) hh (by omega) (by omega) rfl) ?_
          refine JAP (i := 11) rfl (rp_fieldC (off' := 0) rfl rfl fa_56_0 rfl) ?_
          refine JAL (i := 12) rfl (rv_cell rfl rfl ag_3 (by repeat constructor) (by rfl)) ?_
          refine JAP (i := 13) rfl (rp_fieldC (off' := 1) rfl rfl fa_56_1 rfl) ?_
          refine JAL (i := 14) rfl (rv_cell rfl rfl ag_3 (by repeat constructor) (by rfl)) ?_
          refine JA_one (i := 10) (by kernel_rfl) rfl (wn0 rfl) (ow_callB (ec_fn rfl rfl cf_62) rfl rfl (fun w hw => pair62 _ _ _)) trivial (fun _ _ => ?_)
          refine JA_one (i := 15) (by kernel_rfl) rfl (wn0 rfl) (ow_callB (ec_fn rfl rfl cf_62) rfl rfl (fun w hw => pair62 _ _ _)) trivial (fun _ _ => ?_)
          refine JAP (i := 16) rfl (rp2 rfl rfl (fun ρ hx hy w => ex_eql42 rfl hx hy)) ?_
          refine JA_dec (fun h94 => ?_) (fun h94 => ?_)
          ·refine JA_done (by kernel_rfl) ?_
           refine JQ_then_n ?_
           refine J_yes rfl rfl ?_
           refine J_seq ?_
           refine J_keep (l' := []) trivial ?_
           refine J_reg ?_
           refine JN rfl rfl rfl rfl rfl ?_
           refine JL_nil ?_
           refine JQ_then_n ?_
           refine J_ret ?_
           refine JQ_block_r ?_
           refine JQ_then_r ?_
           refine JQ_then_r ?_
           refine JQ_block_r ?_
           refine JQ_block_r ?_
           refine JQ_then_r ?_
           refine JQ_then_r ?_
           refine JQ_block_r ?_
           refine JQ_then_r ?_
           refine JR_one rfl (rr_tmp rfl) ?_
           intro w' hw
           have hc : (keysR l k).contains (keyR x) = true := (keysR_has l k _).2 ⟨j, by omega, by omega, Prod.ext_iff.2 h94⟩
           have e : okR T [] l = false := by rw [← hok, hst, hc, hv]; rfl
           exact ⟨by unfold chkE; rw [if_neg (by simpa using h10), if_neg (by omega), e]; rfl, hw.bel⟩
          ·refine JA_done (by kernel_rfl) ?_
           refine JQ_then_n ?_
           refine J_no rfl rfl ?_
           refine J_skip ?_
           refine JQ_block_n ?_
           refine JQ_then_n ?_
           refine J_keep (l' := [(0, _), (1, _), (5, _), (6, _), (8, _)]) ⟨rfl, rfl, rfl, rfl, rfl, trivial⟩ ?_
           refine J_reg ?_
           refine JM rfl rfl rfl rfl rfl ?_
           refine JP (rp2 rfl rfl (fun ρ hx hy w => ex_add rfl hx hy (by omega))) ?_
           refine JN rfl rfl rfl rfl rfl ?_
           refine JL_nil ?_
           have hsn : ∀ i (h : i < l.length), i < j + 1 → keyR (l[i]'h) ≠ keyR x := by
            intro i h hi
            by_cases e : i = j
            ·subst e
             intro e
             exact h94 (Prod.ext_iff.1 e)
            ·exact hne i h (by omega)
           exact JQ_round (j + 1) ⟨by omega, hsn⟩ (by omega) ⟨rfl, rfl, rfl, rfl, (congrArg some (by go_num)), trivial⟩ (by repeat constructor)
         ·refine JL_nil ?_
          refine JQ_then_n ?_
          refine J_no rfl rfl ?_
          refine J_exit ?_
          refine JQ_then_x ?_
          refine JQ_then_x ?_
          refine JQ_block_y rfl ?_
          refine JQ_block_n ?_
          refine JQ_then_n ?_
          refine J_keep (l' := [(0, _), (1, _), (5, _)]) ⟨rfl, rfl, rfl, trivial⟩ ?_
          refine J_reg ?_
          refine JM rfl rfl rfl rfl rfl ?_
          refine JP (rp2 rfl rfl (fun ρ hx hy w => ex_add rfl hx hy (by omega))) ?_
          refine JN rfl rfl rfl rfl rfl ?_
          refine JL_nil ?_
          have hcn : (keysR l k).contains (keyR x) = false := by
           cases hc : (keysR l k).contains (keyR x) with
           | false => rfl
           | true =>
            obtain ⟨i, hi, hik, he⟩ := (keysR_has l k _).1 hc
            exact absurd he (hne i hi (by omega))
          rw [hcn] at hst
          have hsn : okR T (keysR l (k + 1)) (l.drop (k + 1)) = okR T [] l := by rw [← hok, hst, keysR_succ l k hlt, hx, hv]; simp
          exact JQ_round (k + 1) ⟨by omega, hsn⟩ (by omega) ⟨rfl, rfl, (congrArg some (by go_num)), trivial⟩ (by repeat constructor)
     ·refine JPg (rp1 rfl (fun ρ hx w => ex_not rfl hx)) ?_
      refine JP (rp_pickF rfl rfl rfl) ?_
      refine JM rfl rfl rfl rfl rfl ?_
      refine JF ?_
      refine JF ?_
      refine JF ?_
      refine JF ?_
      refine JF ?_
      refine JP (rp_pickT rfl rfl rfl) ?_
      refine JM rfl rfl rfl rfl rfl ?_
      refine JF ?_
      refine JF ?_
      refine JF ?_
      refine JF ?_
      refine JF ?_
      refine JF ?_
      refine JF ?_
      refine JP (rp_pickT rfl rfl rfl) ?_
      refine JL_nil ?_
      refine JQ_then_n ?_
      refine J_yes rfl rfl ?_
      refine J_seq ?_
      refine J_keep (l' := []) trivial ?_
      refine J_reg ?_
      refine JN rfl rfl rfl rfl rfl ?_
      refine JL_nil ?_
      refine JQ_then_n ?_
      refine J_ret ?_
      refine JQ_then_r ?_
      refine JQ_block_r ?_
      refine JQ_then_r ?_
      refine JQ_then_r ?_
      refine JQ_block_r ?_
      refine JQ_then_r ?_
      refine JR_one rfl (rr_tmp rfl) ?_
      intro w' hw
      have hv : vldB T x = false := decide_eq_false (by omega)
      have e : okR T [] l = false := by rw [← hok, hst, hv]; rfl
      exact ⟨by unfold chkE; rw [if_neg (by simpa using h10), if_neg (by omega), e]; rfl, hw.bel⟩
    ·refine JP (rp1 rfl (fun ρ hx w => ex_not rfl hx)) ?_
     refine JM rfl rfl rfl rfl rfl ?_
     refine JF ?_
     refine JF ?_
     refine JF ?_
     refine JF ?_
     refine JF ?_
     refine JF ?_
     refine JP (rp_pickT rfl rfl rfl) ?_
     refine JM rfl rfl rfl rfl rfl ?_
     refine JF ?_
     refine JF ?_
     refine JF ?_
     refine JF ?_
     refine JF ?_
     refine JP (rp_pickT rfl rfl rfl) ?_
     refine JM rfl rfl rfl rfl rfl ?_
     refine JF ?_
     refine JF ?_
     refine JF ?_
     refine JF ?_
     refine JF ?_
     refine JF ?_
     refine JF ?_
     refine JP (rp_pickT rfl rfl rfl) ?_
     refine JL_nil ?_
     refine JQ_then_n ?_
     refine J_yes rfl rfl ?_
     refine J_seq ?_
     refine J_keep (l' := []) trivial ?_
     refine J_reg ?_
     refine JN rfl rfl rfl rfl rfl ?_
     refine JL_nil ?_
     refine JQ_then_n ?_
     refine J_ret ?_
     refine JQ_then_r ?_
     refine JQ_block_r ?_
     refine JQ_then_r ?_
     refine JQ_then_r ?_
     refine JQ_block_r ?_
     refine JQ_then_r ?_
     refine JR_one rfl (rr_tmp rfl) ?_
     intro w' hw
     have hv : vldB T x = false := decide_eq_false (by omega)
     have e : okR T [] l = false := by rw [← hok, hst, hv]; rfl
     exact ⟨by unfold chkE; rw [if_neg (by simpa using h10), if_neg (by omega), e]; rfl, hw.bel⟩
   ·refine JL_nil ?_
    refine JQ_then_n ?_
    refine J_no rfl rfl ?_
    refine J_exit ?_
    refine JQ_then_x ?_
    refine JQ_then_x ?_
    refine JQ_block_y rfl ?_
    refine JQ_then_n ?_
    refine J_seq ?_
    refine J_keep (l' := []) trivial ?_
    refine J_reg ?_
    refine JN rfl rfl rfl rfl rfl ?_
    refine JL_nil ?_
    refine JQ_then_n ?_
    refine J_ret ?_
    refine JR_one rfl (rr_tmp rfl) ?_
    intro w' hw
    have e : okR T [] l = true := by rw [← hok, List.drop_of_length_le (by omega)]; rfl
    exact ⟨by unfold chkE; rw [if_neg (by simpa using h10), if_neg (by omega), e]; rfl, hw.bel⟩
 ·refine JP (rp1 rfl (fun ρ hx w => ex_not rfl hx)) ?_
  refine JL_nil ?_
  refine JQ_then_n ?_
  refine J_yes rfl rfl ?_
  refine J_seq ?_
  refine J_keep (l' := []) trivial ?_
  refine J_reg ?_
  refine JN rfl rfl rfl rfl rfl ?_
  refine JL_nil ?_
  refine JQ_then_n ?_
  refine J_ret ?_
  refine JQ_then_r ?_
  refine JR_one rfl (rr_tmp rfl) ?_
  intro w' hw
  exact ⟨by unfold chkE; rw [if_pos h10], hw.bel⟩
end Go.Proofs.Ytlfbbofcnonhdaa
