import Derived.Test.YtlfbbofcnonhdaaBg
import Derived.Test.YtlfbbofcnonhdaaRf
/- Contracts: whole numbers compared; three results in a ring; who has won. -/
namespace Go.Proofs.Ytlfbbofcnonhdaa
open Go Go.RowKit Go.Proofs

set_option maxRecDepth 100000 in
set_option maxHeartbeats 4000000 in
theorem Ints39 (l m : List Int) (v u : Value) (w : World) (hl : Arr 1 eI w v l) (hm : Arr 1 eI w u m) : Calls Try.prog 39 #[v, u] w (Back (.bool (decide (l = m))) w) := by
 obtain ⟨A, cap, rfl, -, ⟨hlb, -⟩, hA⟩ := hl
 obtain ⟨A1, cap1, rfl, -, ⟨hmb, -⟩, hA1⟩ := hm
 refine J_enter (fun _ => False) (vs := [.slice A l.length cap, .slice A1 m.length cap1]) (k := 24) (l := [(0, .slice A l.length cap), (1, .slice A1 m.length cap1)]) Try.func39 rfl rfl Try.ntmps39 rfl rfl (Wd.start _) ?_
 refine J_seq ?_
 refine J_reg ?_
 refine JN rfl rfl rfl rfl rfl ?_
 refine JL_nil ?_
 refine JQ_then_n ?_
 refine J_seq ?_
 refine J_seq ?_
 refine J_reg ?_
 refine JM rfl rfl rfl rfl rfl ?_
 refine JP (rp1 rfl (fun ρ hx w => ex_len (A := _) (c := _) rfl Try.underlying26 hx)) ?_
 refine JM rfl rfl rfl rfl rfl ?_
 refine JP (rp1 rfl (fun ρ hx w => ex_len (A := _) (c := _) rfl Try.underlying26 hx)) ?_
 refine JP (rp2 rfl rfl (fun ρ hx hy w => ex_neqD rfl hx hy)) ?_
 refine JL_dec (fun h10 => ?_) (fun h10 => ?_)
 ·refine JL_nil ?_
  refine JQ_then_n ?_
  refine J_yes rfl rfl ?_
  refine J_seq ?_
  refine J_keep (l' := []) trivial ?_
  refine J_reg ?_
  refine JN rfl rfl rfl rfl rfl ?_
  refine JL_nil ?_
  refine JQ_then_n ?_
  refine J_ret ?_
  refine JQ_then_r ?_
  refine JR_one rfl (rr_tmp rfl) ?_
  intro w' hw
  exact ⟨by rw [decide_eq_false (fun e => h10 (by rw [e]))], hw.bel⟩
 ·refine JL_nil ?_
  refine JQ_then_n ?_
  refine J_no rfl rfl ?_
  refine J_skip ?_
  refine JQ_then_n ?_
  refine J_seq ?_
  refine J_seq ?_
  refine J_keep (l' := [(0, _), (1, _)]) ⟨rfl, rfl, trivial⟩ ?_
  refine J_reg ?_
  refine JN rfl rfl rfl rfl rfl ?_
  refine JL_nil ?_
  refine JQ_then_n ?_
  refine J_block ?_
  refine J_loop (T := Nat) (fun k => k ≤ l.length ∧ l.take k = m.take k) (fun k => [(0, .slice A l.length cap), (1, .slice A1 m.length cap1), (5, .int .i64 (k : Nat))]) (fun k => []) (fun k => l.length - k) 0 ⟨Nat.zero_le _, rfl⟩ ⟨rfl, rfl, rfl, trivial⟩ (by repeat constructor) ?_
  rintro k ⟨hk, he⟩
  refine J_seq ?_
  refine J_seq ?_
  refine J_reg ?_
  refine JM rfl rfl rfl rfl rfl ?_
  refine JM rfl rfl rfl rfl rfl ?_
  refine JP (rp1 rfl (fun ρ hx w => ex_len (A := _) (c := _) rfl Try.underlying26 hx)) ?_
  refine JP (rp2 rfl rfl (fun ρ hx hy w => ex_lssD rfl hx hy)) ?_
  refine JL_dec (fun h14 => ?_) (fun h14 => ?_)
  ·refine JL_nil ?_
   refine JQ_then_n ?_
   refine J_yes rfl rfl ?_
   refine J_skip ?_
   refine JQ_then_n ?_
   refine J_seq ?_
   refine J_block ?_
   refine J_seq ?_
   have hlt : k < l.length := by omega
   have hlm : l.length = m.length := by omega
   obtain ⟨b, p, rfl, hh⟩ := hA (by intro e; subst e; simp at hlt)
   obtain ⟨c, q, rfl, hi⟩ := hA1 (by intro e; rw [e] at hlm; simp only [List.length_nil] at hlm; omega)
   refine J_keep (l' := [(0, _), (1, _), (5, _)]) ⟨rfl, rfl, rfl, trivial⟩ ?_
   refine J_draw [3, 7] (by kernel_rfl) ?_
   refine JAP (i := 0) rfl (rp_move rfl rfl) ?_
   refine JAP (i := 1) rfl (rp_move rfl rfl) ?_
   refine JAP (i := 2) rfl (rp2 rfl rfl (fun ρ hx hy w => ex_indexE rfl hx hy Try.underlying26 sz_3 (by omega))) ?_
   refine JAL (i := 3) rfl (rv_hold rfl rfl ag_3 (fun h => h) hh (by omega) (by omega) rfl) ?_
   refine JAP (i := 4) rfl (rp_move rfl rfl) ?_
   refine JAP (i := 5) rfl (rp_move rfl rfl) ?_
   refine JAP (i := 6) rfl (rp2 rfl rfl (fun ρ hx hy w => ex_indexE rfl hx hy Try.underlying26 sz_3 (by omega))) ?_
   refine JAL (i := 7) rfl (rv_hold rfl rfl ag_3 (fun h => h) hi (by omega) (by omega) rfl) ?_
   refine JAP (i := 8) rfl (rp2 rfl rfl (fun ρ hx hy w => ex_neqD rfl hx hy)) ?_
   refine JA_dec (fun h25 => ?_) (fun h25 => ?_)
   ·have hne : ¬ l[k]'hlt = m[k]'(by omega) := h25
    refine JA_done (by kernel_rfl) ?_
    refine JQ_then_n ?_
    refine J_yes rfl rfl ?_
    refine J_seq ?_
    refine J_keep (l' := []) trivial ?_
    refine J_reg ?_
    refine JN rfl rfl rfl rfl rfl ?_
    refine JL_nil ?_
    refine JQ_then_n ?_
    refine J_ret ?_
    refine JQ_block_r ?_
    refine JQ_then_r ?_
    refine JQ_then_r ?_
    refine JQ_block_r ?_
    refine JQ_then_r ?_
    refine JR_one rfl (rr_tmp rfl) ?_
    intro w' hw
    exact ⟨by rw [decide_eq_false (fun e => hne (by subst e; rfl))], hw.bel⟩
   ·have heq : l[k]'hlt = m[k]'(by omega) := Classical.not_not.1 h25
    refine JA_done (by kernel_rfl) ?_
    refine JQ_then_n ?_
    refine J_no rfl rfl ?_
    refine J_skip ?_
    refine JQ_block_n ?_
    refine JQ_then_n ?_
    refine J_keep (l' := [(0, _), (1, _), (5, _)]) ⟨rfl, rfl, rfl, trivial⟩ ?_
    refine J_reg ?_
    refine JM rfl rfl rfl rfl rfl ?_
    refine JP (rp2 rfl rfl (fun ρ hx hy w => ex_add rfl hx hy (by omega))) ?_
    refine JN rfl rfl rfl rfl rfl ?_
    refine JL_nil ?_
    have hsn : l.take (k + 1) = m.take (k + 1) := by rw [List.take_succ_eq_append_getElem hlt, List.take_succ_eq_append_getElem (by omega : k < m.length), he, heq]
    exact JQ_round (k + 1) ⟨by omega, hsn⟩ (by omega) ⟨rfl, rfl, (congrArg some (by go_num)), trivial⟩ (by repeat constructor)
  ·refine JL_nil ?_
   refine JQ_then_n ?_
   refine J_no rfl rfl ?_
   refine J_exit ?_
   refine JQ_then_x ?_
   refine JQ_then_x ?_
   refine JQ_block_y rfl ?_
   refine JQ_then_n ?_
   refine J_seq ?_
   refine J_keep (l' := []) trivial ?_
   refine J_reg ?_
   refine JN rfl rfl rfl rfl rfl ?_
   refine JL_nil ?_
   refine JQ_then_n ?_
   refine J_ret ?_
   refine JR_one rfl (rr_tmp rfl) ?_
   intro w' hw
   have ek : k = l.length := by omega
   subst ek
   have e : l = m := by rw [List.take_length] at he; rw [he, List.take_of_length_le (by omega)]
   exact ⟨by rw [decide_eq_true e], hw.bel⟩
def ringL (a b c : Int) : List Re := [⟨0, 1, 5, 4, a, b⟩, ⟨1, 2, 5, 4, b, c⟩, ⟨2, 0, 5, 4, c, a⟩]
set_option maxRecDepth 100000 in
set_option maxHeartbeats 4000000 in
theorem ring45 (a b c : Int) (w : World) : Calls Try.prog 45 #[.int .i64 a, .int .i64 b, .int .i64 c] w (RetS 56 6 eR (ringL a b c) w) := by
 refine J_enter (fun _ => False) (vs := [.int .i64 a, .int .i64 b, .int .i64 c]) (k := 20) (l := [(0, .int .i64 a), (1, .int .i64 b), (2, .int .i64 c)]) Try.func45 rfl rfl Try.ntmps45 rfl rfl (Wd.start _) ?_
 refine J_seq ?_
 refine J_reg ?_
 refine JN rfl rfl rfl rfl rfl ?_
 refine JL_nil ?_
 refine JQ_then_n ?_
 refine J_seq ?_
 refine J_reg ?_
 refine JP (rp_buildC (fun us => [us.getD 0 undef, us.getD 1 undef]) rfl rfl (fun w => by kernel_rfl)) ?_
 refine JM rfl rfl rfl rfl rfl ?_
 refine JM rfl rfl rfl rfl rfl ?_
 refine JP (rp_buildC (fun us => [us.getD 0 undef, us.getD 1 undef]) rfl rfl (fun w => by kernel_rfl)) ?_
 refine JP (rp_buildC (fun us => [us.getD 0 undef, us.getD 1 undef, us.getD 2 undef, us.getD 3 undef]) rfl rfl (fun w => by kernel_rfl)) ?_
 refine JP (rp_buildC (fun us => [us.getD 0 undef, us.getD 1 undef]) rfl rfl (fun w => by kernel_rfl)) ?_
 refine JM rfl rfl rfl rfl rfl ?_
 refine JM rfl rfl rfl rfl rfl ?_
 refine JP (rp_buildC (fun us => [us.getD 0 undef, us.getD 1 undef]) rfl rfl (fun w => by kernel_rfl)) ?_
 refine JP (rp_buildC (fun us => [us.getD 0 undef, us.getD 1 undef, us.getD 2 undef, us.getD 3 undef]) rfl rfl (fun w => by kernel_rfl)) ?_
 refine JP (rp_buildC (fun us => [us.getD 0 undef, us.getD 1 undef]) rfl rfl (fun w => by kernel_rfl)) ?_
 refine JM rfl rfl rfl rfl rfl ?_
 refine JM rfl rfl rfl rfl rfl ?_
 refine JP (rp_buildC (fun us => [us.getD 0 undef, us.getD 1 undef]) rfl rfl (fun w => by kernel_rfl)) ?_
 refine JP (rp_buildC (fun us => [us.getD 0 undef, us.getD 1 undef, us.getD 2 undef, us.getD 3 undef]) rfl rfl (fun w => by kernel_rfl)) ?_
 refine JL_op (wn0 rfl) (ow_sliceC (vs := [_, _, _, _, _, _, _, _, _, _, _, _, _, _, _, _, _, _]) (ty := 56) rfl rfl (by rfl) rfl rfl (fun _ => by kernel_rfl)) (fun b22 hb22 => ?_)
 refine JN rfl rfl rfl rfl rfl ?_
 refine JL_nil ?_
 refine JQ_then_n ?_
 refine J_ret ?_
 refine JR_one rfl (rr_tmp rfl) ?_
 intro w' hw
 have h1 := hw.pick (H' := [cellB b22 [.int .i64 0, .int .i64 1, .int .i64 5, .int .i64 4, .int .i64 a, .int .i64 b, .int .i64 1, .int .i64 2, .int .i64 5, .int .i64 4, .int .i64 b, .int .i64 c, .int .i64 2, .int .i64 0, .int .i64 5, .int .i64 4, .int .i64 c, .int .i64 a] 56]) (by repeat constructor)
 exact ⟨some ⟨b22, 0, none⟩, 3, rfl, h1.asOwn (kk := 6) (m := 3) (At.here _) rfl (by omega)⟩
end Go.Proofs.Ytlfbbofcnonhdaa

/- Contracts of brackets: Teams, great. -/
namespace Go.Proofs.Ytlfbbofcnonhdaa
open Go Go.RowKit Go.Proofs

/-- What is told of a game's teams. -/
def tmsR (T : Nat) (G : List Gm) (m : Int → Option Int) (i : Int) : Int × Int × Int :=
 if 0 ≤ i ∧ i ≤ (G.length : Int) - 1 then (atM (tmM m T G G.length) (G.getD i.toNat ((0, 0), (0, 0))).1, atM (tmM m T G G.length) (G.getD i.toNat ((0, 0), (0, 0))).2, 0) else (0, 0, 7)
set_option maxRecDepth 100000 in
set_option maxHeartbeats 4000000 in
theorem Teams35 (T : Nat) (G : List Gm) (R : List (Int × Int)) (m : Int → Option Int) (i : Int) (w : World) (bp bm cap cap2 n0 c0 : Nat) (A A2 : Option Addr) (hp : PdF (T : Nat) G R w bp bm cap cap2 A A2) (hmp : MapF 3 3 kI W64 dI w bm n0 c0 m) (hT : T ≤ 16) (hGl : G.length ≤ 64) (hG2 : ∀ g ∈ G, W2 g.1 ∧ W2 g.2) (hmv : ∀ i r, m i = some r → r = 0 ∨ r = 1) : Calls Try.prog 35 #[.pointer (some ⟨bp, 0, none⟩), .int .i64 i] w (Back (.tuple #[.int .i64 (tmsR T G m i).1, .int .i64 (tmsR T G m i).2.1, .int .i64 (tmsR T G m i).2.2]) w) := by
 obtain ⟨Ag, cg, eg, -, -, hA⟩ := id hp.hG
 injection eg with e1 e2 e3
 subst e1 e3
 refine J_enter (fun _ => False) (vs := [.pointer (some ⟨bp, 0, none⟩), .int .i64 i]) (k := 40) (l := [(0, .pointer (some ⟨bp, 0, none⟩)), (1, .int .i64 i)]) Try.func35 rfl rfl Try.ntmps35 rfl rfl (Wd.start _) ?_
 refine J_seq ?_
 refine J_reg ?_
 refine JN rfl rfl rfl rfl rfl ?_
 refine JN rfl rfl rfl rfl rfl ?_
 refine JN rfl rfl rfl rfl rfl ?_
 refine JL_nil ?_
 refine JQ_then_n ?_
 refine J_seq ?_
 refine J_block ?_
 refine J_seq ?_
 refine J_reg ?_
 refine JM rfl rfl rfl rfl rfl ?_
 refine JL_op (wn0 rfl) (ow_callB (ec_fn rfl rfl cf_73) rfl rfl (fun w hw => is73 (T : Nat) G R w bp bm cap cap2 A A2 (hp.up hw.bel))) (fun _ _ => ?_)
 refine JP (rp1 rfl (fun ρ hx w => ex_not rfl hx)) ?_
 refine JN rfl rfl rfl rfl rfl ?_
 refine JL_nil ?_
 refine JQ_then_n ?_
 refine J_no rfl rfl ?_
 refine J_seq ?_
 refine J_keep (l' := [(0, _), (1, _)]) ⟨rfl, rfl, trivial⟩ ?_
 refine J_reg ?_
 refine JM rfl rfl rfl rfl rfl ?_
 refine JM rfl rfl rfl rfl rfl ?_
 refine JP (rp_nil rfl rfl) ?_
 refine JP (rp_fieldC (off' := 0) rfl rfl fa_86_0 rfl) ?_
 refine JP (rp_fieldC (off' := 1) rfl rfl fa_25_1 rfl) ?_
 refine JV (rv_old rfl rfl ag_22 (fun h => h) hp.c1) ?_
 refine JP (rp1 rfl (fun ρ hx w => ex_len (A := _) (c := _) rfl Try.underlying22 hx)) ?_
 refine JP (rp2 rfl rfl (fun ρ hx hy w => ex_sub rfl hx hy (by omega))) ?_
 refine JL_op (wn0 rfl) (ow_callP (ec_fn rfl rfl cf_47) rfl rfl (fun w hw => within47 i 0 ((G.length : Nat) - 1) w)) (fun _ _ => ?_)
 refine JL_bool (fun h22 => ?_) (fun h22 => ?_)
 ·refine JP (rp1 rfl (fun ρ hx w => ex_not rfl hx)) ?_
  refine JN rfl rfl rfl rfl rfl ?_
  refine JL_nil ?_
  refine JQ_then_n ?_
  refine J_no rfl rfl ?_
  refine J_skip ?_
  refine JQ_block_n ?_
  refine JQ_then_n ?_
  refine J_seq ?_
  have hib := of_decide_eq_true h22
  obtain ⟨k, rfl⟩ := Int.eq_ofNat_of_zero_le hib.1
  have hik : ((k : Nat) : Int).toNat = k := Int.toNat_natCast k
  have hlt : k < G.length := by omega
  obtain ⟨b, p, rfl, hh⟩ := hA (by intro e; subst e; simp at hlt)
  obtain ⟨g, hg⟩ : ∃ g, G[k]'hlt = g := ⟨_, rfl⟩
  have hgw := hG2 _ (List.getElem_mem hlt)
  have hgd : G.getD k ((0, 0), (0, 0)) = g := by rw [List.getD_eq_getElem?_getD, List.getElem?_eq_getElem hlt]; exact hg
  rw [hg] at hgw
  refine J_keep (l' := [(0, _), (1, _)]) ⟨rfl, rfl, trivial⟩ ?_
  refine J_draw [6, 9] (by kernel_rfl) ?_
  refine JAP (i := 0) rfl (rp_move rfl rfl) ?_
  refine JAP (i := 2) rfl (rp_move rfl rfl) ?_
  refine JAP (i := 3) rfl (rp_nil rfl rfl) ?_
  refine JAP (i := 4) rfl (rp_fieldC (off' := 0) rfl rfl fa_86_0 rfl) ?_
  refine JAP (i := 5) rfl (rp_fieldC (off' := 1) rfl rfl fa_25_1 rfl) ?_
  refine JAL (i := 6) rfl (rv_old rfl rfl ag_22 (fun h => h) hp.c1) ?_
  refine JAP (i := 7) rfl (rp_move rfl rfl) ?_
  refine JAP (i := 8) rfl (rp2 rfl rfl (fun ρ hx hy w => ex_indexE rfl hx hy Try.underlying22 sz_90 (by omega))) ?_
  refine JAL (i := 9) rfl (rv_holdagg (cs := [.int .i64 g.1.1, .int .i64 g.1.2, .int .i64 g.2.1, .int .i64 g.2.2]) EG rfl rfl ag_90 sz_90 (fun h => h) hh (by omega) (by rw [hg]; rfl)) ?_
  refine JA_two (i := 1) (j := 10) (by kernel_rfl) rfl rfl (wn0 rfl) (wn0 rfl) (ow_callR (ec_fn rfl rfl cf_74) rfl rfl (fun _ => rfl) (fun w hw => teams74 T G R m w bp bm cap cap2 n0 c0 _ A2 (hp.up hw.bel) (hmp.up hw.bel) hT hGl hG2 hmv)) (ow_alloc rfl rfl zv_90 rfl rfl) trivial trivial (fun t25 ht25 => ?_) (fun b8 hb8 => ?_)
  ·refine JA_one (i := 10) (by kernel_rfl) rfl (wn0 rfl) (ow_alloc rfl rfl zv_90 rfl rfl) trivial (fun b8 hb8 => ?_)
   refine JAP (i := 11) rfl (rp_assign rfl rfl) ?_
   refine JA_one (i := 12) (by kernel_rfl) rfl (wn0 rfl) (ow_store (cs := [_, _, _, _]) (vs' := [_, _, _, _]) rfl rfl rfl rfl rfl sz_90 rfl (by repeat constructor) (by rfl) (by rfl)) ⟨by kernel_rfl, .inl (by kernel_rfl)⟩ (fun _ _ => ?_)
   refine JA_done (by kernel_rfl) ?_
   refine JQ_then_n ?_
   refine J_seq ?_
   refine J_keep (l' := [(7, _), (8, _)]) ⟨rfl, rfl, trivial⟩ ?_
   refine J_draw [2, 6] (by kernel_rfl) ?_
   refine JAP (i := 0) rfl (rp_move rfl rfl) ?_
   refine JAP (i := 1) rfl (rp_arrC (off' := 0) rfl rfl rfl ia_90_0 rfl) ?_
   refine JAL (i := 2) rfl (rv_agg (cs := [_, _]) rfl rfl ag_89 sz_89 (by repeat constructor) (by rfl)) ?_
   refine JAP (i := 4) rfl (rp_move rfl rfl) ?_
   refine JAP (i := 5) rfl (rp_arrC (off' := 2) rfl rfl rfl ia_90_1 rfl) ?_
   refine JAL (i := 6) rfl (rv_agg (cs := [_, _]) rfl rfl ag_89 sz_89 (by repeat constructor) (by rfl)) ?_
   refine JA_one (i := 3) (by kernel_rfl) rfl (wn0 rfl) (ow_callB (ec_fn rfl rfl cf_75) rfl rfl (fun w hw => at75 (tmM m T G G.length) g.1 w t25.1 t25.2.1 t25.2.2 (hw.ok (mapB 89 3 kP W2 dI t25.1 t25.2.1 t25.2.2 (tmM m T G G.length)) (by repeat constructor)).1 hgw.1)) trivial (fun _ _ => ?_)
   refine JA_one (i := 7) (by kernel_rfl) rfl (wn0 rfl) (ow_callB (ec_fn rfl rfl cf_75) rfl rfl (fun w hw => at75 (tmM m T G G.length) g.2 w t25.1 t25.2.1 t25.2.2 (hw.ok (mapB 89 3 kP W2 dI t25.1 t25.2.1 t25.2.2 (tmM m T G G.length)) (by repeat constructor)).1 hgw.2)) trivial (fun _ _ => ?_)
   refine JAP (i := 8) rfl (rp_assign rfl rfl) ?_
   refine JAP (i := 9) rfl (rp_assign rfl rfl) ?_
   refine JAP (i := 10) rfl (rp_assign rfl rfl) ?_
   refine JA_done (by kernel_rfl) ?_
   refine JQ_then_n ?_
   refine J_ret ?_
   refine JR_three rfl (rr_tmp rfl) (rr_tmp rfl) (rr_tmp rfl) ?_
   intro w' hw
   have e : tmsR T G m ((k : Nat) : Int) = (atM (tmM m T G G.length) g.1, atM (tmM m T G G.length) g.2, 0) := by
    unfold tmsR; rw [if_pos (of_decide_eq_true h22), hik, hgd]
   rw [e]
   exact ⟨rfl, hw.bel⟩
  ·refine JA_one (i := 1) (by kernel_rfl) rfl (wn0 rfl) (ow_callR (ec_fn rfl rfl cf_74) rfl rfl (fun _ => rfl) (fun w hw => teams74 T G R m w bp bm cap cap2 n0 c0 _ A2 (hp.up hw.bel) (hmp.up hw.bel) hT hGl hG2 hmv)) trivial (fun t25 ht25 => ?_)
   refine JAP (i := 11) rfl (rp_assign rfl rfl) ?_
   refine JA_one (i := 12) (by kernel_rfl) rfl (wn0 rfl) (ow_store (cs := [_, _, _, _]) (vs' := [_, _, _, _]) rfl rfl rfl rfl rfl sz_90 rfl (by repeat constructor) (by rfl) (by rfl)) ⟨by kernel_rfl, .inl (by kernel_rfl)⟩ (fun _ _ => ?_)
   refine JA_done (by kernel_rfl) ?_
   refine JQ_then_n ?_
   refine J_seq ?_
   refine J_keep (l' := [(7, _), (8, _)]) ⟨rfl, rfl, trivial⟩ ?_
   refine J_draw [2, 6] (by kernel_rfl) ?_
   refine JAP (i := 0) rfl (rp_move rfl rfl) ?_
   refine JAP (i := 1) rfl (rp_arrC (off' := 0) rfl rfl rfl ia_90_0 rfl) ?_
   refine JAL (i := 2) rfl (rv_agg (cs := [_, _]) rfl rfl ag_89 sz_89 (by repeat constructor) (by rfl)) ?_
   refine JAP (i := 4) rfl (rp_move rfl rfl) ?_
   refine JAP (i := 5) rfl (rp_arrC (off' := 2) rfl rfl rfl ia_90_1 rfl) ?_
   refine JAL (i := 6) rfl (rv_agg (cs := [_, _]) rfl rfl ag_89 sz_89 (by repeat constructor) (by rfl)) ?_
   refine JA_one (i := 3) (by kernel_rfl) rfl (wn0 rfl) (ow_callB (ec_fn rfl rfl cf_75) rfl rfl (fun w hw => at75 (tmM m T G G.length) g.1 w t25.1 t25.2.1 t25.2.2 (hw.ok (mapB 89 3 kP W2 dI t25.1 t25.2.1 t25.2.2 (tmM m T G G.length)) (by repeat constructor)).1 hgw.1)) trivial (fun _ _ => ?_)
   refine JA_one (i := 7) (by kernel_rfl) rfl (wn0 rfl) (ow_callB (ec_fn rfl rfl cf_75) rfl rfl (fun w hw => at75 (tmM m T G G.length) g.2 w t25.1 t25.2.1 t25.2.2 (hw.ok (mapB 89 3 kP W2 dI t25.1 t25.2.1 t25.2.2 (tmM m T G G.length)) (by repeat constructor)).1 hgw.2)) trivial (fun _ _ => ?_)
   refine JAP (i := 8) rfl (rp_assign rfl rfl) ?_
   refine JAP (i := 9) rfl (rp_assign rfl rfl) ?_
   refine JAP (i := 10) rfl (rp_assign rfl rfl) ?_
   refine JA_done (by kernel_rfl) ?_
   refine JQ_then_n ?_
   refine J_ret ?_
   refine JR_three rfl (rr_tmp rfl) (rr_tmp rfl) (rr_tmp rfl) ?_
   intro w' hw
   have e : tmsR T G m ((k : Nat) : Int) = (atM (tmM m T G G.length) g.1, atM (tmM m T G G.length) g.2, 0) := by
    unfold tmsR; rw [if_pos (of_decide_eq_true h22), hik, hgd]
   rw [e]
   exact ⟨rfl, hw.bel⟩
 ·refine JP (rp1 rfl (fun ρ hx w => ex_not rfl hx)) ?_
  refine JN rfl rfl rfl rfl rfl ?_
  refine JL_nil ?_
  refine JQ_then_n ?_
  refine J_yes rfl rfl ?_
  refine J_seq ?_
  refine J_keep (l' := []) trivial ?_
  refine J_reg ?_
  refine JN rfl rfl rfl rfl rfl ?_
  refine JN rfl rfl rfl rfl rfl ?_
  refine JN rfl rfl rfl rfl rfl ?_
  refine JL_nil ?_
  refine JQ_then_n ?_
  refine J_ret ?_
  refine JQ_block_r ?_
  refine JQ_then_r ?_
  refine JR_three rfl (rr_tmp rfl) (rr_tmp rfl) (rr_tmp rfl) ?_
  intro w' hw
  have e : tmsR T G m i = (0, 0, 7) := if_neg (of_decide_eq_false h22)
  rw [e]
  exact ⟨rfl, hw.bel⟩
end Go.Proofs.Ytlfbbofcnonhdaa

/- Contracts of brackets: great, won. -/
namespace Go.Proofs.Ytlfbbofcnonhdaa
open Go Go.RowKit Go.Proofs

/-- A bracket with too many games or ranks. -/
def grB (G : List Gm) (R : List (Int × Int)) : Bool := decide (70 < (G.length : Int)) || decide (20 < (R.length : Int))
set_option maxRecDepth 100000 in
set_option maxHeartbeats 4000000 in
theorem great13 (T : Int) (G : List Gm) (R : List (Int × Int)) (w : World) (A A2 : Option Addr) (cap cap2 : Nat) : Calls Try.prog 13 #[Brv T A G.length cap A2 R.length cap2] w (Back (.bool (grB G R)) w) := by
 refine J_enter (fun _ => False) (vs := [Brv T A G.length cap A2 R.length cap2]) (k := 12) (l := [(0, Brv T A G.length cap A2 R.length cap2)]) Try.func13 rfl rfl Try.ntmps13 rfl rfl (Wd.start _) ?_
 refine J_seq ?_
 refine J_reg ?_
 refine JL_op (wn0 rfl) (ow_box (vs := [_, _, _]) rfl rfl rfl rfl rfl) (fun b1 hb1 => ?_)
 refine JN rfl rfl rfl rfl rfl ?_
 refine JL_nil ?_
 refine JQ_then_n ?_
 refine J_seq ?_
 refine J_reg ?_
 refine JP (rp_fieldC (off' := 1) rfl rfl fa_25_1 rfl) ?_
 refine JV (rv_cell rfl rfl ag_22 (by repeat constructor) (by rfl)) ?_
 refine JP (rp1 rfl (fun ρ hx w => ex_len (A := _) (c := _) rfl Try.underlying22 hx)) ?_
 refine JP (rp2 rfl rfl (fun ρ hx hy w => ex_gtrD rfl hx hy)) ?_
 refine JL_dec (fun h6 => ?_) (fun h6 => ?_)
 ·refine JM rfl rfl rfl rfl rfl ?_
  refine JF ?_
  refine JF ?_
  refine JF ?_
  refine JF ?_
  refine JP (rp_pickT rfl rfl rfl) ?_
  refine JN rfl rfl rfl rfl rfl ?_
  refine JL_nil ?_
  refine JQ_then_n ?_
  refine J_ret ?_
  refine JR_one rfl (rr_tmp rfl) ?_
  intro w' hw
  have e : grB G R = true := by unfold grB; rw [decide_eq_true (show 70 < (G.length : Int) by omega)]; rfl
  rw [e]
  exact ⟨rfl, hw.bel⟩
 ·refine JM rfl rfl rfl rfl rfl ?_
  refine JPg (rp_fieldC (off' := 2) rfl rfl fa_25_2 rfl) ?_
  refine JVg (rv_cell rfl rfl ag_23 (by repeat constructor) (by rfl)) ?_
  refine JPg (rp1 rfl (fun ρ hx w => ex_len (A := _) (c := _) rfl Try.underlying23 hx)) ?_
  refine JPg (rp2 rfl rfl (fun ρ hx hy w => ex_gtrD rfl hx hy)) ?_
  refine JL_dec (fun h11 => ?_) (fun h11 => ?_)
  ·refine JP (rp_pickF rfl rfl rfl) ?_
   refine JN rfl rfl rfl rfl rfl ?_
   refine JL_nil ?_
   refine JQ_then_n ?_
   refine J_ret ?_
   refine JR_one rfl (rr_tmp rfl) ?_
   intro w' hw
   have e : grB G R = true := by unfold grB; rw [decide_eq_false (show ¬ 70 < (G.length : Int) by omega), decide_eq_true (show 20 < (R.length : Int) by omega)]; rfl
   rw [e]
   exact ⟨rfl, hw.bel⟩
  ·refine JP (rp_pickF rfl rfl rfl) ?_
   refine JN rfl rfl rfl rfl rfl ?_
   refine JL_nil ?_
   refine JQ_then_n ?_
   refine J_ret ?_
   refine JR_one rfl (rr_tmp rfl) ?_
   intro w' hw
   have e : grB G R = false := by unfold grB; rw [decide_eq_false (show ¬ 70 < (G.length : Int) by omega), decide_eq_false (show ¬ 20 < (R.length : Int) by omega)]; rfl
   rw [e]
   exact ⟨rfl, hw.bel⟩
end Go.Proofs.Ytlfbbofcnonhdaa
