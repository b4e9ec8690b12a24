/- Contracts of the document: side, row. -/
import Derived.Test.YtlfbbofcnonhdaaJt
namespace Go.Proofs.Ytlfbbofcnonhdaa
open Go Go.RowKit Go.Proofs

/-- Which side a team is in a result. -/
def sdR (x : Re) (t : Int) : Int := if x.a = t then 0 else if x.b = t then 1 else -1
theorem side91 (x : Re) (t : Int) (w : World) : Calls Try.prog 91 #[Rev x, .int .i64 t] w (Back (.int .i64 (sdR x t)) w) := by
 refine J_enter (fun _ => False) (vs := [Rev x, .int .i64 t]) (k := 11) (l := [(0, Rev x), (1, .int .i64 t)]) Try.func91 rfl rfl Try.ntmps91 rfl rfl (Wd.start _) ?_
 refine J_seq ?_
 refine J_reg ?_
 refine JL_op (wn0 rfl) (ow_box (vs := [_, _, _, _, _, _]) rfl rfl rfl rfl rfl) (fun b2 hb2 => ?_)
 refine JN rfl rfl rfl rfl rfl ?_
 refine JL_nil ?_
 refine JQ_then_n ?_
 refine J_seq ?_
 refine J_seq ?_
 refine J_reg ?_
 refine JP (rp_fieldC (off' := 0) rfl rfl fa_56_0 rfl) ?_
 refine JV (rv_cell rfl rfl ag_3 (by repeat constructor) (by rfl)) ?_
 refine JM rfl rfl rfl rfl rfl ?_
 refine JP (rp2 rfl rfl (fun ρ hx hy w => ex_eqlD rfl hx hy)) ?_
 refine JL_dec (fun h8 => ?_) (fun h8 => ?_)
 ·refine JL_nil ?_
  refine JQ_then_n ?_
  refine J_yes rfl rfl ?_
  refine J_seq ?_
  refine J_keep (l' := []) trivial ?_
  refine J_reg ?_
  refine JN rfl rfl rfl rfl rfl ?_
  refine JL_nil ?_
  refine JQ_then_n ?_
  refine J_ret ?_
  refine JQ_then_r ?_
  refine JR_one rfl (rr_tmp rfl) ?_
  intro w' hw
  exact ⟨by unfold sdR; rw [if_pos h8], hw.bel⟩
 ·refine JL_nil ?_
  refine JQ_then_n ?_
  refine J_no rfl rfl ?_
  refine J_skip ?_
  refine JQ_then_n ?_
  refine J_seq ?_
  refine J_seq ?_
  refine J_keep (l' := [(1, _), (2, _)]) ⟨rfl, rfl, trivial⟩ ?_
  refine J_reg ?_
  refine JP (rp_fieldC (off' := 1) rfl rfl fa_56_1 rfl) ?_
  refine JV (rv_cell rfl rfl ag_3 (by repeat constructor) (by rfl)) ?_
  refine JM rfl rfl rfl rfl rfl ?_
  refine JP (rp2 rfl rfl (fun ρ hx hy w => ex_eqlD rfl hx hy)) ?_
  refine JL_dec (fun h12 => ?_) (fun h12 => ?_)
  ·refine JL_nil ?_
   refine JQ_then_n ?_
   refine J_yes rfl rfl ?_
   refine J_seq ?_
   refine J_keep (l' := []) trivial ?_
   refine J_reg ?_
   refine JN rfl rfl rfl rfl rfl ?_
   refine JL_nil ?_
   refine JQ_then_n ?_
   refine J_ret ?_
   refine JQ_then_r ?_
   refine JR_one rfl (rr_tmp rfl) ?_
   intro w' hw
   exact ⟨by unfold sdR; rw [if_neg h8, if_pos h12], hw.bel⟩
  ·refine JL_nil ?_
   refine JQ_then_n ?_
   refine J_no rfl rfl ?_
   refine J_skip ?_
   refine JQ_then_n ?_
   refine J_seq ?_
   refine J_keep (l' := []) trivial ?_
   refine J_reg ?_
   refine JN rfl rfl rfl rfl rfl ?_
   refine JL_nil ?_
   refine JQ_then_n ?_
   refine J_ret ?_
   refine JR_one rfl (rr_tmp rfl) ?_
   intro w' hw
   exact ⟨by unfold sdR; rw [if_neg h8, if_neg h12], hw.bel⟩
/-- The document's row, while the results are gone through: with the greatest measure. -/
def refR (x : Re) (t : Int) (p : Rw × Int) : Rw × Int := if x.a = t then (sideU p.1 x.p0 x.p1 x.m0, max p.2 x.m0) else if x.b = t then (sideU p.1 x.p1 x.p0 x.m1, max p.2 x.m1) else p
def refF (l : List Re) (t : Int) : Rw × Int := l.foldl (fun p x => refR x t p) (⟨t, 0, 0, 0, 0, 0, 0, 0⟩, 0)
def refRow (l : List Re) (t : Int) : Rw := cutR (refF l t).1 (refF l t).2
theorem refF_snoc (l : List Re) (x : Re) (t : Int) : refF (l ++ [x]) t = refR x t (refF l t) := by unfold refF; rw [List.foldl_append]; rfl
theorem refR_b {x : Re} (h : ReB x) {p : Rw × Int} {n : Nat} {t : Int} (hb : RwB p.1 p.2 n) : RwB (refR x t p).1 (refR x t p).2 (n + 1) := by
 have h1 := h.p0; have h2 := h.p1; have h3 := h.m0; have h4 := h.m1
 obtain ⟨q1, q2, q3, q4, q5, q6, q7, q8, q9, q10⟩ := hb
 unfold refR
 split
 ·refine ⟨?_, ?_, ?_, ?_, ?_, ?_, ?_, ?_, ?_, ?_⟩ <;> (try simp only [sideU]) <;> first | omega | (split <;> omega)
 ·split
  ·refine ⟨?_, ?_, ?_, ?_, ?_, ?_, ?_, ?_, ?_, ?_⟩ <;> (try simp only [sideU]) <;> first | omega | (split <;> omega)
  ·exact ⟨by omega, by omega, q3, by omega, by omega, by omega, q7, q8, q9, q10⟩
theorem refF_b (t : Int) : ∀ (l : List Re), (∀ x ∈ l, ReB x) → ∀ k ≤ l.length, RwB (refF (l.take k) t).1 (refF (l.take k) t).2 k
 | l, hl, 0, _ => ⟨by simp [refF], by simp [refF], by simp [refF], by simp [refF], by simp [refF], by simp [refF], by simp [refF], by simp [refF], rfl, fun _ => rfl⟩
 | l, hl, k + 1, hk => by
  rw [List.take_succ_eq_append_getElem (by omega), refF_snoc]
  exact refR_b (hl _ (List.getElem_mem _)) (refF_b t l hl k (by omega))
set_option maxRecDepth 100000 in
set_option maxHeartbeats 4000000 in
theorem row66 (l : List Re) (t : Int) (v : Value) (w : World) (hrow : Arr 6 eR w v l) (hl : l.length ≤ 300) (hb : ∀ x ∈ l, ReB x) : Calls Try.prog 66 #[v, .int .i64 t] w (Back (Rwv (refRow l t)) w) := by
 obtain ⟨A, cap, rfl, -, -, hA⟩ := hrow
 refine J_enter (fun _ => False) (vs := [.slice A l.length cap, .int .i64 t]) (k := 107) (l := [(0, .slice A l.length cap), (1, .int .i64 t)]) Try.func66 rfl rfl Try.ntmps66 rfl rfl (Wd.start _) ?_
 refine J_seq ?_
 refine J_reg ?_
 refine JL_op (wn0 rfl) (ow_alloc rfl rfl zv_58 rfl rfl) (fun b4 hb4 => ?_)
 refine JL_nil ?_
 refine JQ_then_n ?_
 refine J_seq ?_
 refine J_reg ?_
 refine JM rfl rfl rfl rfl rfl ?_
 refine JP (rp_buildC (fun us => [us.getD 0 undef, .int .i64 0, .int .i64 0, .int .i64 0, .int .i64 0, .int .i64 0, .int .i64 0, .int .i64 0]) rfl rfl (fun w => by kernel_rfl)) ?_
 refine JL_op (wn0 rfl) (ow_alloc rfl rfl zv_58 rfl rfl) (fun b5 hb5 => ?_)
 refine JL_op (wn0 rfl) (ow_store (cs := [_, _, _, _, _, _, _, _]) (vs' := [_, _, _, _, _, _, _, _]) rfl rfl rfl rfl rfl sz_58 rfl (by repeat constructor) (by rfl) (by rfl)) (fun _ _ => ?_)
 refine JL_nil ?_
 refine JQ_then_n ?_
 refine J_seq ?_
 refine J_reg ?_
 refine JN rfl rfl rfl rfl rfl ?_
 refine JL_nil ?_
 refine JQ_then_n ?_
 refine J_seq ?_
 refine J_seq ?_
 refine J_reg ?_
 refine JN rfl rfl rfl rfl rfl ?_
 refine JL_nil ?_
 refine JQ_then_n ?_
 refine J_block ?_
 refine J_loop (T := Nat) (fun k => k ≤ l.length) (fun k => [(0, .slice A l.length cap), (1, .int .i64 t), (4, .pointer (some ⟨b4, 0, none⟩)), (5, .pointer (some ⟨b5, 0, none⟩)), (6, .int .i64 (refF (l.take k) t).2), (7, .int .i64 (k : Nat))]) (fun k => [cellB b5 [.int .i64 (refF (l.take k) t).1.team, .int .i64 (refF (l.take k) t).1.place, .int .i64 (refF (l.take k) t).1.games, .int .i64 (refF (l.take k) t).1.wins, .int .i64 (refF (l.take k) t).1.fr, .int .i64 (refF (l.take k) t).1.ag, .int .i64 (refF (l.take k) t).1.draws, .int .i64 (refF (l.take k) t).1.len] 58, cellB b4 [.int .i64 0, .int .i64 0, .int .i64 0, .int .i64 0, .int .i64 0, .int .i64 0, .int .i64 0, .int .i64 0] 58]) (fun k => l.length - k) 0 (Nat.zero_le _) ⟨rfl, rfl, rfl, rfl, rfl, rfl, trivial⟩ (by repeat constructor) ?_
 rintro k hphi
 refine J_seq ?_
 refine J_seq ?_
 refine J_reg ?_
 refine JM rfl rfl rfl rfl rfl ?_
 refine JM rfl rfl rfl rfl rfl ?_
 refine JP (rp1 rfl (fun ρ hx w => ex_len (A := _) (c := _) rfl Try.underlying44 hx)) ?_
 refine JP (rp2 rfl rfl (fun ρ hx hy w => ex_lssD rfl hx hy)) ?_
 refine JL_dec (fun h14 => ?_) (fun h14 => ?_)
 ·refine JL_nil ?_
  refine JQ_then_n ?_
  refine J_yes rfl rfl ?_
  refine J_skip ?_
  refine JQ_then_n ?_
  refine J_seq ?_
  refine J_block ?_
  refine J_seq ?_
  have hlt : k < l.length := by omega
  obtain ⟨b, p, rfl, hh⟩ := hA (by intro e; subst e; simp at hlt)
  have hrb := refF_b t l hb k (by omega)
  have hxb := hb _ (List.getElem_mem hlt)
  have hsn : refF (l.take (k + 1)) t = refR (l[k]'hlt) t (refF (l.take k) t) := by rw [List.take_succ_eq_append_getElem hlt, refF_snoc]
  obtain ⟨q1, q2, q3, q4, q5, q6, q7, q8, q9, q10⟩ := hrb
  obtain ⟨y1, y2, y3, y4⟩ := hxb
  generalize refF (l.take k) t = p at *
  rcases (show (l[k]'hlt).a = t ∨ ((l[k]'hlt).a ≠ t ∧ (l[k]'hlt).b = t) ∨ ((l[k]'hlt).a ≠ t ∧ (l[k]'hlt).b ≠ t) by omega) with ha | ⟨ha, hb'⟩ | ⟨ha, hb'⟩
  ·have hs : sdR (l[k]'hlt) t = 0 := if_pos ha
   refine J_keep (l' := [(0, _), (1, _), (4, _), (5, _), (6, _), (7, _)]) ⟨rfl, rfl, rfl, rfl, rfl, rfl, trivial⟩ ?_
   refine J_reg ?_
   refine JM rfl rfl rfl rfl rfl ?_
   refine JM rfl rfl rfl rfl rfl ?_
   refine JP (rp2 rfl rfl (fun ρ hx hy w => ex_indexE rfl hx hy Try.underlying44 sz_56 (by omega))) ?_
   refine JV (rv_holdagg (E := ER) rfl rfl ag_56 sz_56 (fun h => h) hh (by omega) rfl) ?_
   refine JM rfl rfl rfl rfl rfl ?_
   refine JL_op (wn0 rfl) (ow_callB (ec_fn rfl rfl cf_91) rfl rfl (fun w hw => (by have := side91 (l[k]'hlt) t w; rw [hs] at this; exact this))) (fun _ _ => ?_)
   refine JN rfl rfl rfl rfl rfl ?_
   refine JL_nil ?_
   refine JQ_then_n ?_
   refine J_seq ?_
   refine J_seq ?_
   refine J_keep (l' := [(0, _), (1, _), (4, _), (5, _), (6, _), (7, _), (8, _)]) ⟨rfl, rfl, rfl, rfl, rfl, rfl, rfl, trivial⟩ ?_
   refine J_reg ?_
   refine JM rfl rfl rfl rfl rfl ?_
   refine JP (rp2 rfl rfl (fun ρ hx hy w => ex_lssD rfl hx hy)) ?_
   refine JL_decF (by omega) ?_
   refine JL_nil ?_
   refine JQ_then_n ?_
   refine J_no rfl rfl ?_
   refine J_skip ?_
   refine JQ_then_n ?_
   refine J_seq ?_
   refine J_reg ?_
   refine JP (rp_fieldC (off' := 2) rfl rfl fa_58_2 rfl) ?_
   refine JV (rv_cell rfl rfl ag_3 (by repeat constructor) (by rfl)) ?_
   refine JP (rp2 rfl rfl (fun ρ hx hy w => ex_add rfl hx hy (by omega))) ?_
   refine JP (rp_fieldC (off' := 2) rfl rfl fa_58_2 rfl) ?_
   refine JL_op (wn0 rfl) (ow_store (cs := [_]) (vs' := [_, _, _, _, _, _, _, _]) rfl rfl rfl rfl rfl sz_3 rfl (by repeat constructor) (by rfl) (by rfl)) (fun _ _ => ?_)
   refine JL_nil ?_
   refine JQ_then_n ?_
   refine J_seq ?_
   refine J_keep (l' := [(0, _), (1, _), (4, _), (5, _), (6, _), (7, _), (8, _)]) ⟨rfl, rfl, rfl, rfl, rfl, rfl, rfl, trivial⟩ ?_
   refine J_draw [1, 8] (by kernel_rfl) ?_
   refine JAP (i := 0) rfl (rp_fieldC (off' := 4) rfl rfl fa_58_4 rfl) ?_
   refine JAL (i := 1) rfl (rv_cell rfl rfl ag_3 (by repeat constructor) (by rfl)) ?_
   refine JAP (i := 2) rfl (rp_move rfl rfl) ?_
   refine JAP (i := 3) rfl (rp_move rfl rfl) ?_
   refine JAP (i := 4) rfl (rp_move rfl rfl) ?_
   refine JAP (i := 5) rfl (rp2 rfl rfl (fun ρ hx hy w => ex_indexE rfl hx hy Try.underlying44 sz_56 (by omega))) ?_
   refine JAP (i := 6) rfl (rp_fieldE (i' := 2) rfl rfl fa_56_2 rfl) ?_
   refine JAP (i := 7) rfl (rp_arrE (i' := 2) rfl rfl rfl ia_42_0 rfl) ?_
   refine JAL (i := 8) rfl (rv_hold rfl rfl ag_3 (fun h => h) hh (by omega) (by omega) rfl) ?_
   refine JAP (i := 9) rfl (rp2 rfl rfl (fun ρ hx hy w => ex_add rfl hx hy (by omega))) ?_
   refine JAP (i := 10) rfl (rp_fieldC (off' := 4) rfl rfl fa_58_4 rfl) ?_
   refine JA_one (i := 11) (by kernel_rfl) rfl (wn0 rfl) (ow_store (cs := [_]) (vs' := [_, _, _, _, _, _, _, _]) rfl rfl rfl rfl rfl sz_3 rfl (by repeat constructor) (by rfl) (by rfl)) ⟨by kernel_rfl, .inl (by kernel_rfl)⟩ (fun _ _ => ?_)
   refine JA_done (by kernel_rfl) ?_
   refine JQ_then_n ?_
   refine J_seq ?_
   refine J_keep (l' := [(0, _), (1, _), (4, _), (5, _), (6, _), (7, _), (8, _)]) ⟨rfl, rfl, rfl, rfl, rfl, rfl, rfl, trivial⟩ ?_
   refine J_draw [1, 9] (by kernel_rfl) ?_
   refine JAP (i := 0) rfl (rp_fieldC (off' := 5) rfl rfl fa_58_5 rfl) ?_
   refine JAL (i := 1) rfl (rv_cell rfl rfl ag_3 (by repeat constructor) (by rfl)) ?_
   refine JAP (i := 2) rfl (rp_move rfl rfl) ?_
   refine JAP (i := 3) rfl (rp_move rfl rfl) ?_
   refine JAP (i := 4) rfl (rp_move rfl rfl) ?_
   refine JAP (i := 5) rfl (rp2 rfl rfl (fun ρ hx hy w => ex_sub rfl hx hy (by omega))) ?_
   refine JAP (i := 6) rfl (rp2 rfl rfl (fun ρ hx hy w => ex_indexE rfl hx hy Try.underlying44 sz_56 (by omega))) ?_
   refine JAP (i := 7) rfl (rp_fieldE (i' := 2) rfl rfl fa_56_2 rfl) ?_
   refine JAP (i := 8) rfl (rp_arrE (i' := 3) rfl rfl rfl ia_42_1 rfl) ?_
   refine JAL (i := 9) rfl (rv_hold rfl rfl ag_3 (fun h => h) hh (by omega) (by omega) rfl) ?_
   refine JAP (i := 10) rfl (rp2 rfl rfl (fun ρ hx hy w => ex_add rfl hx hy (by omega))) ?_
   refine JAP (i := 11) rfl (rp_fieldC (off' := 5) rfl rfl fa_58_5 rfl) ?_
   refine JA_one (i := 12) (by kernel_rfl) rfl (wn0 rfl) (ow_store (cs := [_]) (vs' := [_, _, _, _, _, _, _, _]) rfl rfl rfl rfl rfl sz_3 rfl (by repeat constructor) (by rfl) (by rfl)) ⟨by kernel_rfl, .inl (by kernel_rfl)⟩ (fun _ _ => ?_)
   refine JA_done (by kernel_rfl) ?_
   refine JQ_then_n ?_
   refine J_seq ?_
   refine J_seq ?_
   refine J_keep (l' := [(0, _), (1, _), (4, _), (5, _), (6, _), (7, _), (8, _)]) ⟨rfl, rfl, rfl, rfl, rfl, rfl, rfl, trivial⟩ ?_
   refine J_draw [6, 14] (by kernel_rfl) ?_
   refine JAP (i := 0) rfl (rp_move rfl rfl) ?_
   refine JAP (i := 1) rfl (rp_move rfl rfl) ?_
   refine JAP (i := 2) rfl (rp_move rfl rfl) ?_
   refine JAP (i := 3) rfl (rp2 rfl rfl (fun ρ hx hy w => ex_indexE rfl hx hy Try.underlying44 sz_56 (by omega))) ?_
   refine JAP (i := 4) rfl (rp_fieldE (i' := 2) rfl rfl fa_56_2 rfl) ?_
   refine JAP (i := 5) rfl (rp_arrE (i' := 2) rfl rfl rfl ia_42_0 rfl) ?_
   refine JAL (i := 6) rfl (rv_hold rfl rfl ag_3 (fun h => h) hh (by omega) (by omega) rfl) ?_
   refine JAP (i := 7) rfl (rp_move rfl rfl) ?_
   refine JAP (i := 8) rfl (rp_move rfl rfl) ?_
   refine JAP (i := 9) rfl (rp_move rfl rfl) ?_
   refine JAP (i := 10) rfl (rp2 rfl rfl (fun ρ hx hy w => ex_sub rfl hx hy (by omega))) ?_
   refine JAP (i := 11) rfl (rp2 rfl rfl (fun ρ hx hy w => ex_indexE rfl hx hy Try.underlying44 sz_56 (by omega))) ?_
   refine JAP (i := 12) rfl (rp_fieldE (i' := 2) rfl rfl fa_56_2 rfl) ?_
   refine JAP (i := 13) rfl (rp_arrE (i' := 3) rfl rfl rfl ia_42_1 rfl) ?_
   refine JAL (i := 14) rfl (rv_hold rfl rfl ag_3 (fun h => h) hh (by omega) (by omega) rfl) ?_
   refine JAP (i := 15) rfl (rp2 rfl rfl (fun ρ hx hy w => ex_gtrD rfl hx hy)) ?_
   refine JA_dec (fun h67 => ?_) (fun h67 => ?_)
   ·refine JA_done (by kernel_rfl) ?_
    refine JQ_then_n ?_
    refine J_yes rfl rfl ?_
    refine J_keep (l' := [(0, _), (1, _), (4, _), (5, _), (6, _), (7, _), (8, _)]) ⟨rfl, rfl, rfl, rfl, rfl, rfl, rfl, trivial⟩ ?_
    refine J_reg ?_
    refine JP (rp_fieldC (off' := 3) rfl rfl fa_58_3 rfl) ?_
    refine JV (rv_cell rfl rfl ag_3 (by repeat constructor) (by rfl)) ?_
    refine JP (rp2 rfl rfl (fun ρ hx hy w => ex_add rfl hx hy (by omega))) ?_
    refine JP (rp_fieldC (off' := 3) rfl rfl fa_58_3 rfl) ?_
    refine JL_op (wn0 rfl) (ow_store (cs := [_]) (vs' := [_, _, _, _, _, _, _, _]) rfl rfl rfl rfl rfl sz_3 rfl (by repeat constructor) (by rfl) (by rfl)) (fun _ _ => ?_)
    refine JL_nil ?_
    refine JQ_then_n ?_
    refine J_seq ?_
    refine J_keep (l' := [(0, _), (1, _), (4, _), (5, _), (6, _), (7, _), (8, _)]) ⟨rfl, rfl, rfl, rfl, rfl, rfl, rfl, trivial⟩ ?_
    refine J_reg ?_
    refine JP (rp_fieldC (off' := 6) rfl rfl fa_58_6 rfl) ?_
    refine JV (rv_cell rfl rfl ag_3 (by repeat constructor) (by rfl)) ?_
    refine JP (rp2 rfl rfl (fun ρ hx hy w => ex_add rfl hx hy (by omega))) ?_
    refine JP (rp_fieldC (off' := 6) rfl rfl fa_58_6 rfl) ?_
    refine JL_op (wn0 rfl) (ow_store (cs := [_]) (vs' := [_, _, _, _, _, _, _, _]) rfl rfl rfl rfl rfl sz_3 rfl (by repeat constructor) (by rfl) (by rfl)) (fun _ _ => ?_)
    refine JL_nil ?_
    refine JQ_then_n ?_
    refine J_seq ?_
    refine J_keep (l' := [(0, _), (1, _), (4, _), (5, _), (6, _), (7, _), (8, _)]) ⟨rfl, rfl, rfl, rfl, rfl, rfl, rfl, trivial⟩ ?_
    refine J_draw [1, 8] (by kernel_rfl) ?_
    refine JAP (i := 0) rfl (rp_fieldC (off' := 7) rfl rfl fa_58_7 rfl) ?_
    refine JAL (i := 1) rfl (rv_cell rfl rfl ag_3 (by repeat constructor) (by rfl)) ?_
    refine JAP (i := 2) rfl (rp_move rfl rfl) ?_
    refine JAP (i := 3) rfl (rp_move rfl rfl) ?_
    refine JAP (i := 4) rfl (rp_move rfl rfl) ?_
    refine JAP (i := 5) rfl (rp2 rfl rfl (fun ρ hx hy w => ex_indexE rfl hx hy Try.underlying44 sz_56 (by omega))) ?_
    refine JAP (i := 6) rfl (rp_fieldE (i' := 4) rfl rfl fa_56_3 rfl) ?_
    refine JAP (i := 7) rfl (rp_arrE (i' := 4) rfl rfl rfl ia_42_0 rfl) ?_
    refine JAL (i := 8) rfl (rv_hold rfl rfl ag_3 (fun h => h) hh (by omega) (by omega) rfl) ?_
    refine JAP (i := 9) rfl (rp2 rfl rfl (fun ρ hx hy w => ex_add rfl hx hy (by omega))) ?_
    refine JAP (i := 10) rfl (rp_fieldC (off' := 7) rfl rfl fa_58_7 rfl) ?_
    refine JA_one (i := 11) (by kernel_rfl) rfl (wn0 rfl) (ow_store (cs := [_]) (vs' := [_, _, _, _, _, _, _, _]) rfl rfl rfl rfl rfl sz_3 rfl (by repeat constructor) (by rfl) (by rfl)) ⟨by kernel_rfl, .inl (by kernel_rfl)⟩ (fun _ _ => ?_)
    refine JA_done (by kernel_rfl) ?_
    refine JQ_then_n ?_
    refine J_keep (l' := [(0, _), (1, _), (4, _), (5, _), (6, _), (7, _), (8, _)]) ⟨rfl, rfl, rfl, rfl, rfl, rfl, rfl, trivial⟩ ?_
    refine J_reg ?_
    refine JM rfl rfl rfl rfl rfl ?_
    refine JM rfl rfl rfl rfl rfl ?_
    refine JM rfl rfl rfl rfl rfl ?_
    refine JM rfl rfl rfl rfl rfl ?_
    refine JP (rp2 rfl rfl (fun ρ hx hy w => ex_indexE rfl hx hy Try.underlying44 sz_56 (by omega))) ?_
    refine JP (rp_fieldE (i' := 4) rfl rfl fa_56_3 rfl) ?_
    refine JP (rp_arrE (i' := 4) rfl rfl rfl ia_42_0 rfl) ?_
    refine JV (rv_hold rfl rfl ag_3 (fun h => h) hh (by omega) (by omega) rfl) ?_
    refine JP (rp2 rfl rfl (fun ρ hx hy w => ex_max rfl hx hy)) ?_
    refine JN rfl rfl rfl rfl rfl ?_
    refine JL_nil ?_
    refine JQ_block_n ?_
    refine JQ_then_n ?_
    refine J_keep (l' := [(0, _), (1, _), (4, _), (5, _), (6, _), (7, _)]) ⟨rfl, rfl, rfl, rfl, rfl, rfl, trivial⟩ ?_
    refine J_reg ?_
    refine JM rfl rfl rfl rfl rfl ?_
    refine JP (rp2 rfl rfl (fun ρ hx hy w => ex_add rfl hx hy (by omega))) ?_
    refine JN rfl rfl rfl rfl rfl ?_
    refine JL_nil ?_
    have e1 : refF (l.take (k + 1)) t = (⟨p.1.team, p.1.place, p.1.games + 1, p.1.wins + 1, p.1.fr + (l[k]'hlt).p0, p.1.ag + (l[k]'hlt).p1, p.1.draws + 1, p.1.len + (l[k]'hlt).m0⟩, max p.2 (l[k]'hlt).m0) := by rw [hsn]; unfold refR; rw [if_pos ha]; unfold sideU; rw [if_pos h67]
    exact JQ_round (k + 1) (by omega) (by omega) ⟨rfl, rfl, rfl, rfl, (by rw [e1]; rfl), (congrArg some (by go_num)), trivial⟩ (by (try dsimp only); rw [e1]; repeat (first | exact Pk.nil _ | (refine Pk.pick (by repeat (first | exact Rm.here _ | apply Rm.there)) ?_)))
   ·refine JA_done (by kernel_rfl) ?_
    refine JQ_then_n ?_
    refine J_no rfl rfl ?_
    refine J_skip ?_
    refine JQ_then_n ?_
    refine J_seq ?_
    refine J_keep (l' := [(0, _), (1, _), (4, _), (5, _), (6, _), (7, _), (8, _)]) ⟨rfl, rfl, rfl, rfl, rfl, rfl, rfl, trivial⟩ ?_
    refine J_reg ?_
    refine JP (rp_fieldC (off' := 6) rfl rfl fa_58_6 rfl) ?_
    refine JV (rv_cell rfl rfl ag_3 (by repeat constructor) (by rfl)) ?_
    refine JP (rp2 rfl rfl (fun ρ hx hy w => ex_add rfl hx hy (by omega))) ?_
    refine JP (rp_fieldC (off' := 6) rfl rfl fa_58_6 rfl) ?_
    refine JL_op (wn0 rfl) (ow_store (cs := [_]) (vs' := [_, _, _, _, _, _, _, _]) rfl rfl rfl rfl rfl sz_3 rfl (by repeat constructor) (by rfl) (by rfl)) (fun _ _ => ?_)
    refine JL_nil ?_
    refine JQ_then_n ?_
    refine J_seq ?_
    refine J_keep (l' := [(0, _), (1, _), (4, _), (5, _), (6, _), (7, _), (8, _)]) ⟨rfl, rfl, rfl, rfl, rfl, rfl, rfl, trivial⟩ ?_
    refine J_draw [1, 8] (by kernel_rfl) ?_
    refine JAP (i := 0) rfl (rp_fieldC (off' := 7) rfl rfl fa_58_7 rfl) ?_
    refine JAL (i := 1) rfl (rv_cell rfl rfl ag_3 (by repeat constructor) (by rfl)) ?_
    refine JAP (i := 2) rfl (rp_move rfl rfl) ?_
    refine JAP (i := 3) rfl (rp_move rfl rfl) ?_
    refine JAP (i := 4) rfl (rp_move rfl rfl) ?_
    refine JAP (i := 5) rfl (rp2 rfl rfl (fun ρ hx hy w => ex_indexE rfl hx hy Try.underlying44 sz_56 (by omega))) ?_
    refine JAP (i := 6) rfl (rp_fieldE (i' := 4) rfl rfl fa_56_3 rfl) ?_
    refine JAP (i := 7) rfl (rp_arrE (i' := 4) rfl rfl rfl ia_42_0 rfl) ?_
    refine JAL (i := 8) rfl (rv_hold rfl rfl ag_3 (fun h => h) hh (by omega) (by omega) rfl) ?_
    refine JAP (i := 9) rfl (rp2 rfl rfl (fun ρ hx hy w => ex_add rfl hx hy (by omega))) ?_
    refine JAP (i := 10) rfl (rp_fieldC (off' := 7) rfl rfl fa_58_7 rfl) ?_
    refine JA_one (i := 11) (by kernel_rfl) rfl (wn0 rfl) (ow_store (cs := [_]) (vs' := [_, _, _, _, _, _, _, _]) rfl rfl rfl rfl rfl sz_3 rfl (by repeat constructor) (by rfl) (by rfl)) ⟨by kernel_rfl, .inl (by kernel_rfl)⟩ (fun _ _ => ?_)
    refine JA_done (by kernel_rfl) ?_
    refine JQ_then_n ?_
    refine J_keep (l' := [(0, _), (1, _), (4, _), (5, _), (6, _), (7, _), (8, _)]) ⟨rfl, rfl, rfl, rfl, rfl, rfl, rfl, trivial⟩ ?_
    refine J_reg ?_
    refine JM rfl rfl rfl rfl rfl ?_
    refine JM rfl rfl rfl rfl rfl ?_
    refine JM rfl rfl rfl rfl rfl ?_
    refine JM rfl rfl rfl rfl rfl ?_
    refine JP (rp2 rfl rfl (fun ρ hx hy w => ex_indexE rfl hx hy Try.underlying44 sz_56 (by omega))) ?_
    refine JP (rp_fieldE (i' := 4) rfl rfl fa_56_3 rfl) ?_
    refine JP (rp_arrE (i' := 4) rfl rfl rfl ia_42_0 rfl) ?_
    refine JV (rv_hold rfl rfl ag_3 (fun h => h) hh (by omega) (by omega) rfl) ?_
    refine JP (rp2 rfl rfl (fun ρ hx hy w => ex_max rfl hx hy)) ?_
    refine JN rfl rfl rfl rfl rfl ?_
    refine JL_nil ?_
    refine JQ_block_n ?_
    refine JQ_then_n ?_
    refine J_keep (l' := [(0, _), (1, _), (4, _), (5, _), (6, _), (7, _)]) ⟨rfl, rfl, rfl, rfl, rfl, rfl, trivial⟩ ?_
    refine J_reg ?_
    refine JM rfl rfl rfl rfl rfl ?_
    refine JP (rp2 rfl rfl (fun ρ hx hy w => ex_add rfl hx hy (by omega))) ?_
    refine JN rfl rfl rfl rfl rfl ?_
    refine JL_nil ?_
    have e1 : refF (l.take (k + 1)) t = (⟨p.1.team, p.1.place, p.1.games + 1, p.1.wins, p.1.fr + (l[k]'hlt).p0, p.1.ag + (l[k]'hlt).p1, p.1.draws + 1, p.1.len + (l[k]'hlt).m0⟩, max p.2 (l[k]'hlt).m0) := by rw [hsn]; unfold refR; rw [if_pos ha]; unfold sideU; rw [if_neg h67]
    exact JQ_round (k + 1) (by omega) (by omega) ⟨rfl, rfl, rfl, rfl, (by rw [e1]; rfl), (congrArg some (by go_num)), trivial⟩ (by (try dsimp only); rw [e1]; repeat (first | exact Pk.nil _ | (refine Pk.pick (by repeat (first | exact Rm.here _ | apply Rm.there)) ?_)))
  ·have hs : sdR (l[k]'hlt) t = 1 := by unfold sdR; rw [if_neg ha, if_pos hb']
   refine J_keep (l' := [(0, _), (1, _), (4, _), (5, _), (6, _), (7, _)]) ⟨rfl, rfl, rfl, rfl, rfl, rfl, trivial⟩ ?_
   refine J_reg ?_
   refine JM rfl rfl rfl rfl rfl ?_
   refine JM rfl rfl rfl rfl rfl ?_
   refine JP (rp2 rfl rfl (fun ρ hx hy w => ex_indexE rfl hx hy Try.underlying44 sz_56 (by omega))) ?_
   refine JV (rv_holdagg (E := ER) rfl rfl ag_56 sz_56 (fun h => h) hh (by omega) rfl) ?_
   refine JM rfl rfl rfl rfl rfl ?_
   refine JL_op (wn0 rfl) (ow_callB (ec_fn rfl rfl cf_91) rfl rfl (fun w hw => (by have := side91 (l[k]'hlt) t w; rw [hs] at this; exact this))) (fun _ _ => ?_)
   refine JN rfl rfl rfl rfl rfl ?_
   refine JL_nil ?_
   refine JQ_then_n ?_
   refine J_seq ?_
   refine J_seq ?_
   refine J_keep (l' := [(0, _), (1, _), (4, _), (5, _), (6, _), (7, _), (8, _)]) ⟨rfl, rfl, rfl, rfl, rfl, rfl, rfl, trivial⟩ ?_
   refine J_reg ?_
   refine JM rfl rfl rfl rfl rfl ?_
   refine JP (rp2 rfl rfl (fun ρ hx hy w => ex_lssD rfl hx hy)) ?_
   refine JL_decF (by omega) ?_
   refine JL_nil ?_
   refine JQ_then_n ?_
   refine J_no rfl rfl ?_
   refine J_skip ?_
   refine JQ_then_n ?_
   refine J_seq ?_
   refine J_reg ?_
   refine JP (rp_fieldC (off' := 2) rfl rfl fa_58_2 rfl) ?_
   refine JV (rv_cell rfl rfl ag_3 (by repeat constructor) (by rfl)) ?_
   refine JP (rp2 rfl rfl (fun ρ hx hy w => ex_add rfl hx hy (by omega))) ?_
   refine JP (rp_fieldC (off' := 2) rfl rfl fa_58_2 rfl) ?_
   refine JL_op (wn0 rfl) (ow_store (cs := [_]) (vs' := [_, _, _, _, _, _, _, _]) rfl rfl rfl rfl rfl sz_3 rfl (by repeat constructor) (by rfl) (by rfl)) (fun _ _ => ?_)
   refine JL_nil ?_
   refine JQ_then_n ?_
   refine J_seq ?_
   refine J_keep (l' := [(0, _), (1, _), (4, _), (5, _), (6, _), (7, _), (8, _)]) ⟨rfl, rfl, rfl, rfl, rfl, rfl, rfl, trivial⟩ ?_
   refine J_draw [1, 8] (by kernel_rfl) ?_
   refine JAP (i := 0) rfl (rp_fieldC (off' := 4) rfl rfl fa_58_4 rfl) ?_
   refine JAL (i := 1) rfl (rv_cell rfl rfl ag_3 (by repeat constructor) (by rfl)) ?_
   refine JAP (i := 2) rfl (rp_move rfl rfl) ?_
   refine JAP (i := 3) rfl (rp_move rfl rfl) ?_
   refine JAP (i := 4) rfl (rp_move rfl rfl) ?_
   refine JAP (i := 5) rfl (rp2 rfl rfl (fun ρ hx hy w => ex_indexE rfl hx hy Try.underlying44 sz_56 (by omega))) ?_
   refine JAP (i := 6) rfl (rp_fieldE (i' := 2) rfl rfl fa_56_2 rfl) ?_
   refine JAP (i := 7) rfl (rp_arrE (i' := 3) rfl rfl rfl ia_42_1 rfl) ?_
   refine JAL (i := 8) rfl (rv_hold rfl rfl ag_3 (fun h => h) hh (by omega) (by omega) rfl) ?_
   refine JAP (i := 9) rfl (rp2 rfl rfl (fun ρ hx hy w => ex_add rfl hx hy (by omega))) ?_
   refine JAP (i := 10) rfl (rp_fieldC (off' := 4) rfl rfl fa_58_4 rfl) ?_
   refine JA_one (i := 11) (by kernel_rfl) rfl (wn0 rfl) (ow_store (cs := [_]) (vs' := [_, _, _, _, _, _, _, _]) rfl rfl rfl rfl rfl sz_3 rfl (by repeat constructor) (by rfl) (by rfl)) ⟨by kernel_rfl, .inl (by kernel_rfl)⟩ (fun _ _ => ?_)
   refine JA_done (by kernel_rfl) ?_
   refine JQ_then_n ?_
   refine J_seq ?_
   refine J_keep (l' := [(0, _), (1, _), (4, _), (5, _), (6, _), (7, _), (8, _)]) ⟨rfl, rfl, rfl, rfl, rfl, rfl, rfl, trivial⟩ ?_
   refine J_draw [1, 9] (by kernel_rfl) ?_
   refine JAP (i := 0) rfl (rp_fieldC (off' := 5) rfl rfl fa_58_5 rfl) ?_
   refine JAL (i := 1) rfl (rv_cell rfl rfl ag_3 (by repeat constructor) (by rfl)) ?_
   refine JAP (i := 2) rfl (rp_move rfl rfl) ?_
   refine JAP (i := 3) rfl (rp_move rfl rfl) ?_
   refine JAP (i := 4) rfl (rp_move rfl rfl) ?_
   refine JAP (i := 5) rfl (rp2 rfl rfl (fun ρ hx hy w => ex_sub rfl hx hy (by omega))) ?_
   refine JAP (i := 6) rfl (rp2 rfl rfl (fun ρ hx hy w => ex_indexE rfl hx hy Try.underlying44 sz_56 (by omega))) ?_
   refine JAP (i := 7) rfl (rp_fieldE (i' := 2) rfl rfl fa_56_2 rfl) ?_
   refine JAP (i := 8) rfl (rp_arrE (i' := 2) rfl rfl rfl ia_42_0 rfl) ?_
   refine JAL (i := 9) rfl (rv_hold rfl rfl ag_3 (fun h => h) hh (by omega) (by omega) rfl) ?_
   refine JAP (i := 10) rfl (rp2 rfl rfl (fun ρ hx hy w => ex_add rfl hx hy (by omega))) ?_
   refine JAP (i := 11) rfl (rp_fieldC (off' := 5) rfl rfl fa_58_5 rfl) ?_
   refine JA_one (i := 12) (by kernel_rfl) rfl (wn0 rfl) (ow_store (cs := [_]) (vs' := [_, _, _, _, _, _, _, _]) rfl rfl rfl rfl rfl sz_3 rfl (by repeat constructor) (by rfl) (by rfl)) ⟨by kernel_rfl, .inl (by kernel_rfl)⟩ (fun _ _ => ?_)
   refine JA_done (by kernel_rfl) ?_
   refine JQ_then_n ?_
   refine J_seq ?_
   refine J_seq ?_
   refine J_keep (l' := [(0, _), (1, _), (4, _), (5, _), (6, _), (7, _), (8, _)]) ⟨rfl, rfl, rfl, rfl, rfl, rfl, rfl, trivial⟩ ?_
   refine J_draw [6, 14] (by kernel_rfl) ?_
   refine JAP (i := 0) rfl (rp_move rfl rfl) ?_
   refine JAP (i := 1) rfl (rp_move rfl rfl) ?_
   refine JAP (i := 2) rfl (rp_move rfl rfl) ?_
   refine JAP (i := 3) rfl (rp2 rfl rfl (fun ρ hx hy w => ex_indexE rfl hx hy Try.underlying44 sz_56 (by omega))) ?_
   refine JAP (i := 4) rfl (rp_fieldE (i' := 2) rfl rfl fa_56_2 rfl) ?_
   refine JAP (i := 5) rfl (rp_arrE (i' := 3) rfl rfl rfl ia_42_1 rfl) ?_
   refine JAL (i := 6) rfl (rv_hold rfl rfl ag_3 (fun h => h) hh (by omega) (by omega) rfl) ?_
   refine JAP (i := 7) rfl (rp_move rfl rfl) ?_
   refine JAP (i := 8) rfl (rp_move rfl rfl) ?_
   refine JAP (i := 9) rfl (rp_move rfl rfl) ?_
   refine JAP (i := 10) rfl (rp2 rfl rfl (fun ρ hx hy w => ex_sub rfl hx hy (by omega))) ?_
   refine JAP (i := 11) rfl (rp2 rfl rfl (fun ρ hx hy w => ex_indexE rfl hx hy Try.underlying44 sz_56 (by omega))) ?_
   refine JAP (i := 12) rfl (rp_fieldE (i' := 2) rfl rfl fa_56_2 rfl) ?_
   refine JAP (i := 13) rfl (rp_arrE (i' := 2) rfl rfl rfl ia_42_0 rfl) ?_
   refine JAL (i := 14) rfl (rv_hold rfl rfl ag_3 (fun h => h) hh (by omega) (by omega) rfl) ?_
   refine JAP (i := 15) rfl (rp2 rfl rfl (fun ρ hx hy w => ex_gtrD rfl hx hy)) ?_
   refine JA_dec (fun h67 => ?_) (fun h67 => ?_)
   ·refine JA_done (by kernel_rfl) ?_
    refine JQ_then_n ?_
    refine J_yes rfl rfl ?_
    refine J_keep (l' := [(0, _), (1, _), (4, _), (5, _), (6, _), (7, _), (8, _)]) ⟨rfl, rfl, rfl, rfl, rfl, rfl, rfl, trivial⟩ ?_
    refine J_reg ?_
    refine JP (rp_fieldC (off' := 3) rfl rfl fa_58_3 rfl) ?_
    refine JV (rv_cell rfl rfl ag_3 (by repeat constructor) (by rfl)) ?_
    refine JP (rp2 rfl rfl (fun ρ hx hy w => ex_add rfl hx hy (by omega))) ?_
    refine JP (rp_fieldC (off' := 3) rfl rfl fa_58_3 rfl) ?_
    refine JL_op (wn0 rfl) (ow_store (cs := [_]) (vs' := [_, _, _, _, _, _, _, _]) rfl rfl rfl rfl rfl sz_3 rfl (by repeat constructor) (by rfl) (by rfl)) (fun _ _ => ?_)
    refine JL_nil ?_
    refine JQ_then_n ?_
    refine J_seq ?_
    refine J_keep (l' := [(0, _), (1, _), (4, _), (5, _), (6, _), (7, _), (8, _)]) ⟨rfl, rfl, rfl, rfl, rfl, rfl, rfl, trivial⟩ ?_
    refine J_reg ?_
    refine JP (rp_fieldC (off' := 6) rfl rfl fa_58_6 rfl) ?_
    refine JV (rv_cell rfl rfl ag_3 (by repeat constructor) (by rfl)) ?_
    refine JP (rp2 rfl rfl (fun ρ hx hy w => ex_add rfl hx hy (by omega))) ?_
    refine JP (rp_fieldC (off' := 6) rfl rfl fa_58_6 rfl) ?_
    refine JL_op (wn0 rfl) (ow_store (cs := [_]) (vs' := [_, _, _, _, _, _, _, _]) rfl rfl rfl rfl rfl sz_3 rfl (by repeat constructor) (by rfl) (by rfl)) (fun _ _ => ?_)
    refine JL_nil ?_
    refine JQ_then_n ?_
    refine J_seq ?_
    refine J_keep (l' := [(0, _), (1, _), (4, _), (5, _), (6, _), (7, _), (8, _)]) ⟨rfl, rfl, rfl, rfl, rfl, rfl, rfl, trivial⟩ ?_
    refine J_draw [1, 8] (by kernel_rfl) ?_
    refine JAP (i := 0) rfl (rp_fieldC (off' := 7) rfl rfl fa_58_7 rfl) ?_
    refine JAL (i := 1) rfl (rv_cell rfl rfl ag_3 (by repeat constructor) (by rfl)) ?_
    refine JAP (i := 2) rfl (rp_move rfl rfl) ?_
    refine JAP (i := 3) rfl (rp_move rfl rfl) ?_
    refine JAP (i := 4) rfl (rp_move rfl rfl) ?_
    refine JAP (i := 5) rfl (rp2 rfl rfl (fun ρ hx hy w => ex_indexE rfl hx hy Try.underlying44 sz_56 (by omega))) ?_
    refine JAP (i := 6) rfl (rp_fieldE (i' := 4) rfl rfl fa_56_3 rfl) ?_
    refine JAP (i := 7) rfl (rp_arrE (i' := 5) rfl rfl rfl ia_42_1 rfl) ?_
    refine JAL (i := 8) rfl (rv_hold rfl rfl ag_3 (fun h => h) hh (by omega) (by omega) rfl) ?_
    refine JAP (i := 9) rfl (rp2 rfl rfl (fun ρ hx hy w => ex_add rfl hx hy (by omega))) ?_
    refine JAP (i := 10) rfl (rp_fieldC (off' := 7) rfl rfl fa_58_7 rfl) ?_
    refine JA_one (i := 11) (by kernel_rfl) rfl (wn0 rfl) (ow_store (cs := [_]) (vs' := [_, _, _, _, _, _, _, _]) rfl rfl rfl rfl rfl sz_3 rfl (by repeat constructor) (by rfl) (by rfl)) ⟨by kernel_rfl, .inl (by kernel_rfl)⟩ (fun _ _ => ?_)
    refine JA_done (by kernel_rfl) ?_
    refine JQ_then_n ?_
    refine J_keep (l' := [(0, _), (1, _), (4, _), (5, _), (6, _), (7, _), (8, _)]) ⟨rfl, rfl, rfl, rfl, rfl, rfl, rfl, trivial⟩ ?_
    refine J_reg ?_
    refine JM rfl rfl rfl rfl rfl ?_
    refine JM rfl rfl rfl rfl rfl ?_
    refine JM rfl rfl rfl rfl rfl ?_
    refine JM rfl rfl rfl rfl rfl ?_
    refine JP (rp2 rfl rfl (fun ρ hx hy w => ex_indexE rfl hx hy Try.underlying44 sz_56 (by omega))) ?_
    refine JP (rp_fieldE (i' := 4) rfl rfl fa_56_3 rfl) ?_
    refine JP (rp_arrE (i' := 5) rfl rfl rfl ia_42_1 rfl) ?_
    refine JV (rv_hold rfl rfl ag_3 (fun h => h) hh (by omega) (by omega) rfl) ?_
    refine JP (rp2 rfl rfl (fun ρ hx hy w => ex_max rfl hx hy)) ?_
    refine JN rfl rfl rfl rfl rfl ?_
    refine JL_nil ?_
    refine JQ_block_n ?_
    refine JQ_then_n ?_
    refine J_keep (l' := [(0, _), (1, _), (4, _), (5, _), (6, _), (7, _)]) ⟨rfl, rfl, rfl, rfl, rfl, rfl, trivial⟩ ?_
    refine J_reg ?_
    refine JM rfl rfl rfl rfl rfl ?_
    refine JP (rp2 rfl rfl (fun ρ hx hy w => ex_add rfl hx hy (by omega))) ?_
    refine JN rfl rfl rfl rfl rfl ?_
    refine JL_nil ?_
    have e1 : refF (l.take (k + 1)) t = (⟨p.1.team, p.1.place, p.1.games + 1, p.1.wins + 1, p.1.fr + (l[k]'hlt).p1, p.1.ag + (l[k]'hlt).p0, p.1.draws + 1, p.1.len + (l[k]'hlt).m1⟩, max p.2 (l[k]'hlt).m1) := by rw [hsn]; unfold refR; rw [if_neg ha, if_pos hb']; unfold sideU; rw [if_pos h67]
    exact JQ_round (k + 1) (by omega) (by omega) ⟨rfl, rfl, rfl, rfl, (by rw [e1]; rfl), (congrArg some (by go_num)), trivial⟩ (by (try dsimp only); rw [e1]; repeat (first | exact Pk.nil _ | (refine Pk.pick (by repeat (first | exact Rm.here _ | apply Rm.there)) ?_)))
   ·refine JA_done (by kernel_rfl) ?_
    refine JQ_then_n ?_
    refine J_no rfl rfl ?_
    refine J_skip ?_
    refine JQ_then_n ?_
    refine J_seq ?_
    refine J_keep (l' := [(0, _), (1, _), (4, _), (5, _), (6, _), (7, _), (8, _)]) ⟨rfl, rfl, rfl, rfl, rfl, rfl, rfl, trivial⟩ ?_
    refine J_reg ?_
    refine JP (rp_fieldC (off' := 6) rfl rfl fa_58_6 rfl) ?_
    refine JV (rv_cell rfl rfl ag_3 (by repeat constructor) (by rfl)) ?_
    refine JP (rp2 rfl rfl (fun ρ hx hy w => ex_add rfl hx hy (by omega))) ?_
    refine JP (rp_fieldC (off' := 6) rfl rfl fa_58_6 rfl) ?_
    refine JL_op (wn0 rfl) (ow_store (cs := [_]) (vs' := [_, _, _, _, _, _, _, _]) rfl rfl rfl rfl rfl sz_3 rfl (by repeat constructor) (by rfl) (by rfl)) (fun _ _ => ?_)
    refine JL_nil ?_
    refine JQ_then_n ?_
    refine J_seq ?_
    refine J_keep (l' := [(0, _), (1, _), (4, _), (5, _), (6, _), (7, _), (8, _)]) ⟨rfl, rfl, rfl, rfl, rfl, rfl, rfl, trivial⟩ ?_
    refine J_draw [1, 8] (by kernel_rfl) ?_
    refine JAP (i := 0) rfl (rp_fieldC (off' := 7) rfl rfl fa_58_7 rfl) ?_
    refine JAL (i := 1) rfl (rv_cell rfl rfl ag_3 (by repeat constructor) (by rfl)) ?_
    refine JAP (i := 2) rfl (rp_move rfl rfl) ?_
    refine JAP (i := 3) rfl (rp_move rfl rfl) ?_
    refine JAP (i := 4) rfl (rp_move rfl rfl) ?_
    refine JAP (i := 5) rfl (rp2 rfl rfl (fun ρ hx hy w => ex_indexE rfl hx hy Try.underlying44 sz_56 (by omega))) ?_
    refine JAP (i := 6) rfl (rp_fieldE (i' := 4) rfl rfl fa_56_3 rfl) ?_
    refine JAP (i := 7) rfl (rp_arrE (i' := 5) rfl rfl rfl ia_42_1 rfl) ?_
    refine JAL (i := 8) rfl (rv_hold rfl rfl ag_3 (fun h => h) hh (by omega) (by omega) rfl) ?_
    refine JAP (i := 9) rfl (rp2 rfl rfl (fun ρ hx hy w => ex_add rfl hx hy (by omega))) ?_
    refine JAP (i := 10) rfl (rp_fieldC (off' := 7) rfl rfl fa_58_7 rfl) ?_
    refine JA_one (i := 11) (by kernel_rfl) rfl (wn0 rfl) (ow_store (cs := [_]) (vs' := [_, _, _, _, _, _, _, _]) rfl rfl rfl rfl rfl sz_3 rfl (by repeat constructor) (by rfl) (by rfl)) ⟨by kernel_rfl, .inl (by kernel_rfl)⟩ (fun _ _ => ?_)
    refine JA_done (by kernel_rfl) ?_
    refine JQ_then_n ?_
    refine J_keep (l' := [(0, _), (1, _), (4, _), (5, _), (6, _), (7, _), (8, _)]) ⟨rfl, rfl, rfl, rfl, rfl, rfl, rfl, trivial⟩ ?_
    refine J_reg ?_
    refine JM rfl rfl rfl rfl rfl ?_
    refine JM rfl rfl rfl rfl rfl ?_
    refine JM rfl rfl rfl rfl rfl ?_
    refine JM rfl rfl rfl rfl rfl ?_
    refine JP (rp2 rfl rfl (fun ρ hx hy w => ex_indexE rfl hx hy Try.underlying44 sz_56 (by omega))) ?_
    refine JP (rp_fieldE (i' := 4) rfl rfl fa_56_3 rfl) ?_
    refine JP (rp_arrE (i' := 5) rfl rfl rfl ia_42_1 rfl) ?_
    refine JV (rv_hold rfl rfl ag_3 (fun h => h) hh (by omega) (by omega) rfl) ?_
    refine JP (rp2 rfl rfl (fun ρ hx hy w => ex_max rfl hx hy)) ?_
    refine JN rfl rfl rfl rfl rfl ?_
    refine JL_nil ?_
    refine JQ_block_n ?_
    refine JQ_then_n ?_
    refine J_keep (l' := [(0, _), (1, _), (4, _), (5, _), (6, _), (7, _)]) ⟨rfl, rfl, rfl, rfl, rfl, rfl, trivial⟩ ?_
    refine J_reg ?_
    refine JM rfl rfl rfl rfl rfl ?_
    refine JP (rp2 rfl rfl (fun ρ hx hy w => ex_add rfl hx hy (by omega))) ?_
    refine JN rfl rfl rfl rfl rfl ?_
    refine JL_nil ?_
    have e1 : refF (l.take (k + 1)) t = (⟨p.1.team, p.1.place, p.1.games + 1, p.1.wins, p.1.fr + (l[k]'hlt).p1, p.1.ag + (l[k]'hlt).p0, p.1.draws + 1, p.1.len + (l[k]'hlt).m1⟩, max p.2 (l[k]'hlt).m1) := by rw [hsn]; unfold refR; rw [if_neg ha, if_pos hb']; unfold sideU; rw [if_neg h67]
    exact JQ_round (k + 1) (by omega) (by omega) ⟨rfl, rfl, rfl, rfl, (by rw [e1]; rfl), (congrArg some (by go_num)), trivial⟩ (by (try dsimp only); rw [e1]; repeat (first | exact Pk.nil _ | (refine Pk.pick (by repeat (first | exact Rm.here _ | apply Rm.there)) ?_)))
  ·have hs : sdR (l[k]'hlt) t = -1 := by unfold sdR; rw [if_neg ha, if_neg hb']
   refine J_keep (l' := [(0, _), (1, _), (4, _), (5, _), (6, _), (7, _)]) ⟨rfl, rfl, rfl, rfl, rfl, rfl, trivial⟩ ?_
   refine J_reg ?_
   refine JM rfl rfl rfl rfl rfl ?_
   refine JM rfl rfl rfl rfl rfl ?_
   refine JP (rp2 rfl rfl (fun ρ hx hy w => ex_indexE rfl hx hy Try.underlying44 sz_56 (by omega))) ?_
   refine JV (rv_holdagg (E := ER) rfl rfl ag_56 sz_56 (fun h => h) hh (by omega) rfl) ?_
   refine JM rfl rfl rfl rfl rfl ?_
   refine JL_op (wn0 rfl) (ow_callB (ec_fn rfl rfl cf_91) rfl rfl (fun w hw => (by have := side91 (l[k]'hlt) t w; rw [hs] at this; exact this))) (fun _ _ => ?_)
   refine JN rfl rfl rfl rfl rfl ?_
   refine JL_nil ?_
   refine JQ_then_n ?_
   refine J_seq ?_
   refine J_seq ?_
   refine J_keep (l' := [(0, _), (1, _), (4, _), (5, _), (6, _), (7, _), (8, _)]) ⟨rfl, rfl, rfl, rfl, rfl, rfl, rfl, trivial⟩ ?_
   refine J_reg ?_
   refine JM rfl rfl rfl rfl rfl ?_
   refine JP (rp2 rfl rfl (fun ρ hx hy w => ex_lssD rfl hx hy)) ?_
   refine JL_decT (by omega) ?_
   refine JL_nil ?_
   refine JQ_then_n ?_
   refine J_yes rfl rfl ?_
   refine J_exit ?_
   refine JQ_then_x ?_
   refine JQ_block_y rfl ?_
   refine JQ_then_n ?_
   refine J_reg ?_
   refine JM rfl rfl rfl rfl rfl ?_
   refine JP (rp2 rfl rfl (fun ρ hx hy w => ex_add rfl hx hy (by omega))) ?_
   refine JN rfl rfl rfl rfl rfl ?_
   refine JL_nil ?_
   have e1 : refF (l.take (k + 1)) t = p := by rw [hsn]; unfold refR; rw [if_neg ha, if_neg hb']
   exact JQ_round (k + 1) (by omega) (by omega) ⟨rfl, rfl, rfl, rfl, (by rw [e1]; rfl), (congrArg some (by go_num)), trivial⟩ (by (try dsimp only); rw [e1]; repeat (first | exact Pk.nil _ | (refine Pk.pick (by repeat (first | exact Rm.here _ | apply Rm.there)) ?_)))
 ·refine JL_nil ?_
  refine JQ_then_n ?_
  refine J_no rfl rfl ?_
  refine J_exit ?_
  refine JQ_then_x ?_
  refine JQ_then_x ?_
  refine JQ_block_y rfl ?_
  refine JQ_then_n ?_
  refine J_seq ?_
  refine J_seq ?_
  have hk : k = l.length := by omega
  subst hk
  have hrb := refF_b t l hb l.length (Nat.le_refl _)
  rw [List.take_length] at hrb ⊢
  obtain ⟨q1, q2, q3, q4, q5, q6, q7, q8, q9, q10⟩ := hrb
  refine J_keep (l' := [(4, _), (5, _), (6, _)]) ⟨rfl, rfl, rfl, trivial⟩ ?_
  refine J_reg ?_
  refine JP (rp_fieldC (off' := 2) rfl rfl fa_58_2 rfl) ?_
  refine JV (rv_cell rfl rfl ag_3 (by repeat constructor) (by rfl)) ?_
  refine JP (rp2 rfl rfl (fun ρ hx hy w => ex_geqD rfl hx hy)) ?_
  refine JL_dec (fun h98 => ?_) (fun h98 => ?_)
  ·refine JL_nil ?_
   refine JQ_then_n ?_
   refine J_yes rfl rfl ?_
   refine J_seq ?_
   refine J_reg ?_
   refine JP (rp_fieldC (off' := 6) rfl rfl fa_58_6 rfl) ?_
   refine JV (rv_cell rfl rfl ag_3 (by repeat constructor) (by rfl)) ?_
   refine JP (rp2 rfl rfl (fun ρ hx hy w => ex_sub rfl hx hy (by omega))) ?_
   refine JP (rp_fieldC (off' := 6) rfl rfl fa_58_6 rfl) ?_
   refine JL_op (wn0 rfl) (ow_store (cs := [_]) (vs' := [_, _, _, _, _, _, _, _]) rfl rfl rfl rfl rfl sz_3 rfl (by repeat constructor) (by rfl) (by rfl)) (fun _ _ => ?_)
   refine JL_nil ?_
   refine JQ_then_n ?_
   refine J_keep (l' := [(4, _), (5, _), (6, _)]) ⟨rfl, rfl, rfl, trivial⟩ ?_
   refine J_reg ?_
   refine JP (rp_fieldC (off' := 7) rfl rfl fa_58_7 rfl) ?_
   refine JV (rv_cell rfl rfl ag_3 (by repeat constructor) (by rfl)) ?_
   refine JM rfl rfl rfl rfl rfl ?_
   refine JP (rp2 rfl rfl (fun ρ hx hy w => ex_sub rfl hx hy (by omega))) ?_
   refine JP (rp_fieldC (off' := 7) rfl rfl fa_58_7 rfl) ?_
   refine JL_op (wn0 rfl) (ow_store (cs := [_]) (vs' := [_, _, _, _, _, _, _, _]) rfl rfl rfl rfl rfl sz_3 rfl (by repeat constructor) (by rfl) (by rfl)) (fun _ _ => ?_)
   refine JL_nil ?_
   refine JQ_then_n ?_
   refine J_seq ?_
   refine J_keep (l' := [(4, _), (5, _)]) ⟨rfl, rfl, trivial⟩ ?_
   refine J_reg ?_
   refine JV (rv_agg (cs := [_, _, _, _, _, _, _, _]) rfl rfl ag_58 sz_58 (by repeat constructor) (by rfl)) ?_
   refine JL_op (wn0 rfl) (ow_store (cs := [_, _, _, _, _, _, _, _]) (vs' := [_, _, _, _, _, _, _, _]) rfl rfl rfl rfl rfl sz_58 rfl (by repeat constructor) (by rfl) (by rfl)) (fun _ _ => ?_)
   refine JL_nil ?_
   refine JQ_then_n ?_
   refine J_ret ?_
   refine JR_one rfl (rr_agg (cs := [_, _, _, _, _, _, _, _]) rfl ag_58 sz_58 (by repeat constructor) (by rfl)) ?_
   intro w' hw
   have e : refRow l t = { (refF l t).1 with draws := (refF l t).1.draws - 1, len := (refF l t).1.len - (refF l t).2 } := by unfold refRow cutR; rw [if_pos h98]
   rw [e]
   exact ⟨rfl, hw.bel⟩
  ·refine JL_nil ?_
   refine JQ_then_n ?_
   refine J_no rfl rfl ?_
   refine J_skip ?_
   refine JQ_then_n ?_
   refine J_seq ?_
   refine J_keep (l' := [(4, _), (5, _)]) ⟨rfl, rfl, trivial⟩ ?_
   refine J_reg ?_
   refine JV (rv_agg (cs := [_, _, _, _, _, _, _, _]) rfl rfl ag_58 sz_58 (by repeat constructor) (by rfl)) ?_
   refine JL_op (wn0 rfl) (ow_store (cs := [_, _, _, _, _, _, _, _]) (vs' := [_, _, _, _, _, _, _, _]) rfl rfl rfl rfl rfl sz_58 rfl (by repeat constructor) (by rfl) (by rfl)) (fun _ _ => ?_)
   refine JL_nil ?_
   refine JQ_then_n ?_
   refine J_ret ?_
   refine JR_one rfl (rr_agg (cs := [_, _, _, _, _, _, _, _]) rfl ag_58 sz_58 (by repeat constructor) (by rfl)) ?_
   intro w' hw
   have e : refRow l t = (refF l t).1 := by unfold refRow cutR; rw [if_neg h98]
   rw [e]
   exact ⟨rfl, hw.bel⟩
end Go.Proofs.Ytlfbbofcnonhdaa
