/- Contracts of the document: has, among, before. -/
import Derived.Test.YtlfbbofcnonhdaaSt
import Derived.Test.YtlfbbofcnonhdaaJe
namespace Go.Proofs.Ytlfbbofcnonhdaa
open Go Go.RowKit Go.Proofs

set_option maxRecDepth 100000 in
set_option maxHeartbeats 4000000 in
theorem has105 (l : List Int) (n : Int) (v : Value) (w : World) (hrow : Arr 1 eI w v l) (hl : l.length ≤ 1000) : Calls Try.prog 105 #[v, .int .i64 n] w (Back (.bool (decide (n ∈ l))) w) := by
 obtain ⟨A, cap, rfl, -, -, hA⟩ := hrow
 refine J_enter (fun _ => False) (vs := [.slice A l.length cap, .int .i64 n]) (k := 16) (l := [(0, .slice A l.length cap), (1, .int .i64 n)]) Try.func105 rfl rfl Try.ntmps105 rfl rfl (Wd.start _) ?_
 refine J_seq ?_
 refine J_reg ?_
 refine JN rfl rfl rfl rfl rfl ?_
 refine JL_nil ?_
 refine JQ_then_n ?_
 refine J_seq ?_
 refine J_seq ?_
 refine J_reg ?_
 refine JN rfl rfl rfl rfl rfl ?_
 refine JL_nil ?_
 refine JQ_then_n ?_
 refine J_block ?_
 refine J_loop (T := Nat) (fun k => k ≤ l.length ∧ ∀ x ∈ l.take k, x ≠ n) (fun k => [(0, .slice A l.length cap), (1, .int .i64 n), (5, .int .i64 (k : Nat))]) (fun k => []) (fun k => l.length - k) 0 ⟨Nat.zero_le _, by simp⟩ ⟨rfl, rfl, rfl, trivial⟩ (by repeat constructor) ?_
 rintro k ⟨hk, hne⟩
 refine J_seq ?_
 refine J_seq ?_
 refine J_reg ?_
 refine JM rfl rfl rfl rfl rfl ?_
 refine JM rfl rfl rfl rfl rfl ?_
 refine JP (rp1 rfl (fun ρ hx w => ex_len (A := _) (c := _) rfl Try.underlying26 hx)) ?_
 refine JP (rp2 rfl rfl (fun ρ hx hy w => ex_lssD rfl hx hy)) ?_
 refine JL_dec (fun h9 => ?_) (fun h9 => ?_)
 ·refine JL_nil ?_
  refine JQ_then_n ?_
  refine J_yes rfl rfl ?_
  refine J_skip ?_
  refine JQ_then_n ?_
  refine J_seq ?_
  refine J_block ?_
  refine J_seq ?_
  have hlt : k < l.length := by omega
  obtain ⟨b, p, rfl, hh⟩ := hA (by intro e; subst e; simp at hlt)
  refine J_keep (l' := [(0, _), (1, _), (5, _)]) ⟨rfl, rfl, rfl, trivial⟩ ?_
  refine J_reg ?_
  refine JM rfl rfl rfl rfl rfl ?_
  refine JM rfl rfl rfl rfl rfl ?_
  refine JP (rp2 rfl rfl (fun ρ hx hy w => ex_indexE rfl hx hy Try.underlying26 sz_3 (by omega))) ?_
  refine JV (rv_hold rfl rfl ag_3 (fun h => h) hh (by omega) (by omega) rfl) ?_
  refine JM rfl rfl rfl rfl rfl ?_
  refine JP (rp2 rfl rfl (fun ρ hx hy w => ex_eqlD rfl hx hy)) ?_
  refine JL_dec (fun h17 => ?_) (fun h17 => ?_)
  ·refine JL_nil ?_
   refine JQ_then_n ?_
   refine J_yes rfl rfl ?_
   refine J_seq ?_
   refine J_keep (l' := []) trivial ?_
   refine J_reg ?_
   refine JN rfl rfl rfl rfl rfl ?_
   refine JL_nil ?_
   refine JQ_then_n ?_
   refine J_ret ?_
   refine JQ_block_r ?_
   refine JQ_then_r ?_
   refine JQ_then_r ?_
   refine JQ_block_r ?_
   refine JQ_then_r ?_
   refine JR_one rfl (rr_tmp rfl) ?_
   intro w' hw
   have hm : n ∈ l := by rw [← h17]; exact List.getElem_mem _
   exact ⟨by rw [decide_eq_true hm], hw.bel⟩
  ·refine JL_nil ?_
   refine JQ_then_n ?_
   refine J_no rfl rfl ?_
   refine J_skip ?_
   refine JQ_block_n ?_
   refine JQ_then_n ?_
   refine J_keep (l' := [(0, _), (1, _), (5, _)]) ⟨rfl, rfl, rfl, trivial⟩ ?_
   refine J_reg ?_
   refine JM rfl rfl rfl rfl rfl ?_
   refine JP (rp2 rfl rfl (fun ρ hx hy w => ex_add rfl hx hy (by omega))) ?_
   refine JN rfl rfl rfl rfl rfl ?_
   refine JL_nil ?_
   have hsn : ∀ x ∈ l.take (k + 1), x ≠ n := by
    rw [List.take_succ_eq_append_getElem hlt]
    intro x hx
    rcases List.mem_append.1 hx with hx | hx
    ·exact hne x hx
    ·rw [List.mem_singleton.1 hx]; exact h17
   exact JQ_round (k + 1) ⟨by omega, hsn⟩ (by omega) ⟨rfl, rfl, (congrArg some (by go_num)), trivial⟩ (by repeat constructor)
 ·refine JL_nil ?_
  refine JQ_then_n ?_
  refine J_no rfl rfl ?_
  refine J_exit ?_
  refine JQ_then_x ?_
  refine JQ_then_x ?_
  refine JQ_block_y rfl ?_
  refine JQ_then_n ?_
  refine J_seq ?_
  refine J_keep (l' := []) trivial ?_
  refine J_reg ?_
  refine JN rfl rfl rfl rfl rfl ?_
  refine JL_nil ?_
  refine JQ_then_n ?_
  refine J_ret ?_
  refine JR_one rfl (rr_tmp rfl) ?_
  intro w' hw
  have hm : ¬ n ∈ l := by
   intro hm
   have e : k = l.length := by omega
   rw [e, List.take_length] at hne
   exact hne n hm rfl
  exact ⟨by rw [decide_eq_false hm], hw.bel⟩
/-- The results of teams among themselves. -/
def amB (g : List Int) (x : Re) : Bool := decide (x.a ∈ g) && decide (x.b ∈ g)
def amR (l : List Re) (g : List Int) : List Re := l.filter (amB g)
theorem amR_snoc (l : List Re) (g : List Int) (k : Nat) (h : k < l.length) : amR (l.take (k + 1)) g = if amB g (l[k]'h) then amR (l.take k) g ++ [l[k]'h] else amR (l.take k) g := by
 rw [List.take_succ_eq_append_getElem h]
 unfold amR
 rw [List.filter_append]
 cases hb : amB g (l[k]'h) <;> simp [hb]
theorem amR_len (l : List Re) (g : List Int) (k : Nat) : (amR (l.take k) g).length ≤ l.length := by
 have h1 := List.length_filter_le (amB g) (l.take k)
 rw [List.length_take] at h1
 exact Nat.le_trans h1 (Nat.min_le_right _ _)
theorem Try.info56 : (Try.prog.info? 56).map (fun i => (i.zero, i.size, i.bytes)) = some (some (.agg #[.int .i64 0, .int .i64 0, .int .i64 0, .int .i64 0, .int .i64 0, .int .i64 0]), 6, 48) := by kernel_rfl
set_option maxRecDepth 100000 in
set_option maxHeartbeats 4000000 in
theorem among98 (l : List Re) (g : List Int) (v u : Value) (w : World) (hrow : Arr 6 eR w v l) (hg : Arr 1 eI w u g) (hl : l.length ≤ 300) (hgl : g.length ≤ 1000) : Calls Try.prog 98 #[v, u] w (RetS 56 6 eR (amR l g) w) := by
 obtain ⟨A, cap, rfl, -, -, hA⟩ := hrow
 obtain ⟨A1, cap1, rfl⟩ := hg.form
 refine J_enter (fun _ => False) (vs := [.slice A l.length cap, .slice A1 g.length cap1]) (k := 35) (l := [(0, .slice A l.length cap), (1, .slice A1 g.length cap1)]) Try.func98 rfl rfl Try.ntmps98 rfl rfl (Wd.start _) ?_
 refine J_seq ?_
 refine J_reg ?_
 refine JN rfl rfl rfl rfl rfl ?_
 refine JL_nil ?_
 refine JQ_then_n ?_
 refine J_seq ?_
 refine J_own0 56 6 ?_
 refine J_reg ?_
 refine JN rfl rfl rfl rfl rfl ?_
 refine JL_nil ?_
 refine JQ_then_n ?_
 refine J_seq ?_
 refine J_seq ?_
 refine J_reg ?_
 refine JN rfl rfl rfl rfl rfl ?_
 refine JL_nil ?_
 refine JQ_then_n ?_
 refine J_block ?_
 refine J_loop (T := Nat × Option Addr × Nat) (fun q => q.1 ≤ l.length) (fun q => [(0, .slice A l.length cap), (1, .slice A1 g.length cap1), (5, .slice q.2.1 (amR (l.take q.1) g).length q.2.2), (6, .int .i64 (q.1 : Nat))]) (fun q => [ownB 56 6 q.2.1 (amR (l.take q.1) g).length q.2.2 ((amR (l.take q.1) g).flatMap eR)]) (fun q => l.length - q.1) (0, none, 0) (Nat.zero_le _) ⟨rfl, rfl, rfl, rfl, trivial⟩ (by repeat constructor) ?_
 rintro ⟨k, A5, c5⟩ hk
 dsimp only at hk ⊢
 refine J_seq ?_
 refine J_seq ?_
 refine J_reg ?_
 refine JM rfl rfl rfl rfl rfl ?_
 refine JM rfl rfl rfl rfl rfl ?_
 refine JP (rp1 rfl (fun ρ hx w => ex_len (A := _) (c := _) rfl Try.underlying44 hx)) ?_
 refine JP (rp2 rfl rfl (fun ρ hx hy w => ex_lssD rfl hx hy)) ?_
 refine JL_dec (fun h10 => ?_) (fun h10 => ?_)
 ·refine JL_nil ?_
  refine JQ_then_n ?_
  refine J_yes rfl rfl ?_
  refine J_skip ?_
  refine JQ_then_n ?_
  refine J_seq ?_
  refine J_block ?_
  refine J_seq ?_
  have hlt : k < l.length := by omega
  obtain ⟨b, p, rfl, hh⟩ := hA (by intro e; subst e; simp at hlt)
  have hln := amR_len l g k
  refine J_keep (l' := [(0, _), (1, _), (5, _), (6, _)]) ⟨rfl, rfl, rfl, rfl, trivial⟩ ?_
  refine J_reg ?_
  refine JM rfl rfl rfl rfl rfl ?_
  refine JM rfl rfl rfl rfl rfl ?_
  refine JM rfl rfl rfl rfl rfl ?_
  refine JP (rp2 rfl rfl (fun ρ hx hy w => ex_indexE rfl hx hy Try.underlying44 sz_56 (by omega))) ?_
  refine JP (rp_fieldE (i' := 0) rfl rfl fa_56_0 rfl) ?_
  refine JV (rv_hold rfl rfl ag_3 (fun h => h) hh (by omega) (by omega) rfl) ?_
  refine JL_op (wn0 rfl) (ow_callB (ec_fn rfl rfl cf_105) rfl rfl (fun w hw => has105 g _ _ w (hg.up EI hw.bel) hgl)) (fun _ _ => ?_)
  refine JL_dec (fun h19 => ?_) (fun h19 => ?_)
  ·refine JM rfl rfl rfl rfl rfl ?_
   refine JPg (rp_move rfl rfl) ?_
   refine JPg (rp_move rfl rfl) ?_
   refine JPg (rp_move rfl rfl) ?_
   refine JPg (rp2 rfl rfl (fun ρ hx hy w => ex_indexE rfl hx hy Try.underlying44 sz_56 (by omega))) ?_
   refine JPg (rp_fieldE (i' := 1) rfl rfl fa_56_1 rfl) ?_
   refine JVg (rv_hold rfl rfl ag_3 (fun h => h) hh (by omega) (by omega) rfl) ?_
   refine JL_op (wn_g rfl rfl rfl rfl) (ow_callB (ec_fn rfl rfl cf_105) rfl rfl (fun w hw => has105 g _ _ w (hg.up EI hw.bel) hgl)) (fun _ _ => ?_)
   refine JL_dec (fun h27 => ?_) (fun h27 => ?_)
   ·refine JP (rp_pickT rfl rfl rfl) ?_
    refine JL_nil ?_
    refine JQ_then_n ?_
    refine J_yes rfl rfl ?_
    refine J_keep (l' := [(0, _), (1, _), (5, _), (6, _)]) ⟨rfl, rfl, rfl, rfl, trivial⟩ ?_
    refine J_reg ?_
    refine JM rfl rfl rfl rfl rfl ?_
    refine JM rfl rfl rfl rfl rfl ?_
    refine JM rfl rfl rfl rfl rfl ?_
    refine JP (rp2 rfl rfl (fun ρ hx hy w => ex_indexE rfl hx hy Try.underlying44 sz_56 (by omega))) ?_
    refine JV (rv_holdagg (E := ER) rfl rfl ag_56 sz_56 (fun h => h) hh (by omega) rfl) ?_
    refine JL_op (wn0 rfl) (ow_sliceC (vs := [_, _, _, _, _, _]) (ty := 56) rfl rfl (by rfl) rfl rfl (fun _ => by kernel_rfl)) (fun b34 hb34 => ?_)
    refine JL_opS (wn0 rfl) (ow_app1 ER (by decide) (l[k]'hlt) Try.underlying44 Try.info56 rfl (by decide) rfl rfl rfl rfl rfl (by repeat constructor) (by rfl) (by omega) (by intro A c; repeat constructor)) (fun A35 c35 => ?_)
    refine JN rfl rfl rfl rfl rfl ?_
    refine JL_nil ?_
    refine JQ_block_n ?_
    refine JQ_then_n ?_
    refine J_keep (l' := [(0, _), (1, _), (5, _), (6, _)]) ⟨rfl, rfl, rfl, rfl, trivial⟩ ?_
    refine J_reg ?_
    refine JM rfl rfl rfl rfl rfl ?_
    refine JP (rp2 rfl rfl (fun ρ hx hy w => ex_add rfl hx hy (by omega))) ?_
    refine JN rfl rfl rfl rfl rfl ?_
    refine JL_nil ?_
    have hb : amB g (l[k]'hlt) = true := by unfold amB; rw [decide_eq_true h19, decide_eq_true h27]; rfl
    have hsn := amR_snoc l g k hlt
    rw [hb] at hsn
    have hsn2 : amR (l.take (k + 1)) g = amR (l.take k) g ++ [l[k]'hlt] := hsn
    exact JQ_round (k + 1, A35, c35) (by dsimp only; omega) (by dsimp only; omega) ⟨rfl, rfl, (by rw [hsn2]; rfl), (congrArg some (by go_num)), trivial⟩ (by (try dsimp only); rw [hsn2]; repeat (first | exact Pk.nil _ | (refine Pk.pick (by repeat (first | exact Rm.here _ | apply Rm.there)) ?_)))
   ·refine JP (rp_pickT rfl rfl rfl) ?_
    refine JL_nil ?_
    refine JQ_then_n ?_
    refine J_no rfl rfl ?_
    refine J_skip ?_
    refine JQ_block_n ?_
    refine JQ_then_n ?_
    refine J_keep (l' := [(0, _), (1, _), (5, _), (6, _)]) ⟨rfl, rfl, rfl, rfl, trivial⟩ ?_
    refine J_reg ?_
    refine JM rfl rfl rfl rfl rfl ?_
    refine JP (rp2 rfl rfl (fun ρ hx hy w => ex_add rfl hx hy (by omega))) ?_
    refine JN rfl rfl rfl rfl rfl ?_
    refine JL_nil ?_
    have hb : amB g (l[k]'hlt) = false := by unfold amB; rw [decide_eq_false h27]; simp
    have hsn := amR_snoc l g k hlt
    rw [hb] at hsn
    have hsn2 : amR (l.take (k + 1)) g = amR (l.take k) g := hsn
    exact JQ_round (k + 1, A5, c5) (by dsimp only; omega) (by dsimp only; omega) ⟨rfl, rfl, (by rw [hsn2]; rfl), (congrArg some (by go_num)), trivial⟩ (by (try dsimp only); rw [hsn2]; repeat (first | exact Pk.nil _ | (refine Pk.pick (by repeat (first | exact Rm.here _ | apply Rm.there)) ?_)))
  ·refine JM rfl rfl rfl rfl rfl ?_
   refine JF ?_
   refine JF ?_
   refine JF ?_
   refine JF ?_
   refine JF ?_
   refine JF ?_
   refine JF ?_
   refine JP (rp_pickF rfl rfl rfl) ?_
   refine JL_nil ?_
   refine JQ_then_n ?_
   refine J_no rfl rfl ?_
   refine J_skip ?_
   refine JQ_block_n ?_
   refine JQ_then_n ?_
   refine J_keep (l' := [(0, _), (1, _), (5, _), (6, _)]) ⟨rfl, rfl, rfl, rfl, trivial⟩ ?_
   refine J_reg ?_
   refine JM rfl rfl rfl rfl rfl ?_
   refine JP (rp2 rfl rfl (fun ρ hx hy w => ex_add rfl hx hy (by omega))) ?_
   refine JN rfl rfl rfl rfl rfl ?_
   refine JL_nil ?_
   have hb : amB g (l[k]'hlt) = false := by unfold amB; rw [decide_eq_false h19]; simp
   have hsn := amR_snoc l g k hlt
   rw [hb] at hsn
   have hsn2 : amR (l.take (k + 1)) g = amR (l.take k) g := hsn
   exact JQ_round (k + 1, A5, c5) (by dsimp only; omega) (by dsimp only; omega) ⟨rfl, rfl, (by rw [hsn2]; rfl), (congrArg some (by go_num)), trivial⟩ (by (try dsimp only); rw [hsn2]; repeat (first | exact Pk.nil _ | (refine Pk.pick (by repeat (first | exact Rm.here _ | apply Rm.there)) ?_)))
 ·refine JL_nil ?_
  refine JQ_then_n ?_
  refine J_no rfl rfl ?_
  refine J_exit ?_
  refine JQ_then_x ?_
  refine JQ_then_x ?_
  refine JQ_block_y rfl ?_
  refine JQ_then_n ?_
  refine J_seq ?_
  refine J_keep (l' := [(5, _)]) ⟨rfl, trivial⟩ ?_
  refine J_reg ?_
  refine JM rfl rfl rfl rfl rfl ?_
  refine JN rfl rfl rfl rfl rfl ?_
  refine JL_nil ?_
  refine JQ_then_n ?_
  refine J_ret ?_
  refine JR_one rfl (rr_tmp rfl) ?_
  intro w' hw
  have e : k = l.length := by omega
  subst e
  rw [List.take_length] at hw ⊢
  exact ⟨A5, c5, rfl, hw.pick (by repeat constructor)⟩
/-- Is a team's average less than another one's? -/
def befB (a b : Rw) : Bool := if a.draws = 0 ∨ b.draws = 0 then decide (0 < a.draws ∧ b.draws = 0) else decide (a.len * b.draws < b.len * a.draws)
set_option maxRecDepth 100000 in
set_option maxHeartbeats 4000000 in
theorem before106 (a b : Rw) (w : World) (ha : 0 ≤ a.draws ∧ a.draws ≤ 1000) (hb : 0 ≤ b.draws ∧ b.draws ≤ 1000) (hal : 0 ≤ a.len ∧ a.len ≤ 100000000) (hbl : 0 ≤ b.len ∧ b.len ≤ 100000000) : Calls Try.prog 106 #[Rwv a, Rwv b] w (Back (.bool (befB a b)) w) := by
 have y1 : 0 ≤ a.len * b.draws ∧ a.len * b.draws ≤ 100000000 * 1000 := ⟨Int.mul_nonneg hal.1 hb.1, Int.mul_le_mul hal.2 hb.2 hb.1 (by omega)⟩
 have y2 : 0 ≤ b.len * a.draws ∧ b.len * a.draws ≤ 100000000 * 1000 := ⟨Int.mul_nonneg hbl.1 ha.1, Int.mul_le_mul hbl.2 ha.2 ha.1 (by omega)⟩
 refine J_enter (fun _ => False) (vs := [Rwv a, Rwv b]) (k := 30) (l := [(0, Rwv a), (1, Rwv b)]) Try.func106 rfl rfl Try.ntmps106 rfl rfl (Wd.start _) ?_
 refine J_seq ?_
 refine J_reg ?_
 refine JL_op (wn0 rfl) (ow_box (vs := [_, _, _, _, _, _, _, _]) rfl rfl rfl rfl rfl) (fun b2 hb2 => ?_)
 refine JL_op (wn0 rfl) (ow_box (vs := [_, _, _, _, _, _, _, _]) rfl rfl rfl rfl rfl) (fun b3 hb3 => ?_)
 refine JN rfl rfl rfl rfl rfl ?_
 refine JL_nil ?_
 refine JQ_then_n ?_
 refine J_seq ?_
 refine J_seq ?_
 refine J_reg ?_
 refine JP (rp_fieldC (off' := 6) rfl rfl fa_58_6 rfl) ?_
 refine JV (rv_cell rfl rfl ag_3 (by repeat constructor) (by rfl)) ?_
 refine JP (rp2 rfl rfl (fun ρ hx hy w => ex_eqlD rfl hx hy)) ?_
 refine JL_dec (fun h7 => ?_) (fun h7 => ?_)
 ·refine JM rfl rfl rfl rfl rfl ?_
  refine JF ?_
  refine JF ?_
  refine JF ?_
  refine JP (rp_pickT rfl rfl rfl) ?_
  refine JL_nil ?_
  refine JQ_then_n ?_
  refine J_yes rfl rfl ?_
  refine J_seq ?_
  refine J_keep (l' := [(2, _), (3, _)]) ⟨rfl, rfl, trivial⟩ ?_
  refine J_reg ?_
  refine JP (rp_fieldC (off' := 6) rfl rfl fa_58_6 rfl) ?_
  refine JV (rv_cell rfl rfl ag_3 (by repeat constructor) (by rfl)) ?_
  refine JP (rp2 rfl rfl (fun ρ hx hy w => ex_gtrD rfl hx hy)) ?_
  refine JL_dec (fun h15 => ?_) (fun h15 => ?_)
  ·refine JM rfl rfl rfl rfl rfl ?_
   refine JPg (rp_fieldC (off' := 6) rfl rfl fa_58_6 rfl) ?_
   refine JVg (rv_cell rfl rfl ag_3 (by repeat constructor) (by rfl)) ?_
   refine JPg (rp2 rfl rfl (fun ρ hx hy w => ex_eqlD rfl hx hy)) ?_
   refine JL_dec (fun h19 => ?_) (fun h19 => ?_)
   ·refine JP (rp_pickT rfl rfl rfl) ?_
    refine JN rfl rfl rfl rfl rfl ?_
    refine JL_nil ?_
    refine JQ_then_n ?_
    refine J_ret ?_
    refine JQ_then_r ?_
    refine JR_one rfl (rr_tmp rfl) ?_
    intro w' hw
    refine ⟨?_, hw.bel⟩
    refine congrArg (fun b => Ending.returned (.bool b)) ?_
    unfold befB
    first
     | (rw [if_pos (by omega)]; simp; omega)
     | (rw [if_neg (by omega)]; simp; omega)
     | (rw [if_neg (by omega)])
   ·refine JP (rp_pickT rfl rfl rfl) ?_
    refine JN rfl rfl rfl rfl rfl ?_
    refine JL_nil ?_
    refine JQ_then_n ?_
    refine J_ret ?_
    refine JQ_then_r ?_
    refine JR_one rfl (rr_tmp rfl) ?_
    intro w' hw
    refine ⟨?_, hw.bel⟩
    refine congrArg (fun b => Ending.returned (.bool b)) ?_
    unfold befB
    first
     | (rw [if_pos (by omega)]; simp; omega)
     | (rw [if_neg (by omega)]; simp; omega)
     | (rw [if_neg (by omega)])
  ·refine JM rfl rfl rfl rfl rfl ?_
   refine JF ?_
   refine JF ?_
   refine JF ?_
   refine JP (rp_pickF rfl rfl rfl) ?_
   refine JN rfl rfl rfl rfl rfl ?_
   refine JL_nil ?_
   refine JQ_then_n ?_
   refine J_ret ?_
   refine JQ_then_r ?_
   refine JR_one rfl (rr_tmp rfl) ?_
   intro w' hw
   refine ⟨?_, hw.bel⟩
   refine congrArg (fun b => Ending.returned (.bool b)) ?_
   unfold befB
   first
    | (rw [if_pos (by omega)]; simp; omega)
    | (rw [if_neg (by omega)]; simp; omega)
    | (rw [if_neg (by omega)])
 ·refine JM rfl rfl rfl rfl rfl ?_
  refine JPg (rp_fieldC (off' := 6) rfl rfl fa_58_6 rfl) ?_
  refine JVg (rv_cell rfl rfl ag_3 (by repeat constructor) (by rfl)) ?_
  refine JPg (rp2 rfl rfl (fun ρ hx hy w => ex_eqlD rfl hx hy)) ?_
  refine JL_dec (fun h11 => ?_) (fun h11 => ?_)
  ·refine JP (rp_pickF rfl rfl rfl) ?_
   refine JL_nil ?_
   refine JQ_then_n ?_
   refine J_yes rfl rfl ?_
   refine J_seq ?_
   refine J_keep (l' := [(2, _), (3, _)]) ⟨rfl, rfl, trivial⟩ ?_
   refine J_reg ?_
   refine JP (rp_fieldC (off' := 6) rfl rfl fa_58_6 rfl) ?_
   refine JV (rv_cell rfl rfl ag_3 (by repeat constructor) (by rfl)) ?_
   refine JP (rp2 rfl rfl (fun ρ hx hy w => ex_gtrD rfl hx hy)) ?_
   refine JL_dec (fun h15 => ?_) (fun h15 => ?_)
   ·refine JM rfl rfl rfl rfl rfl ?_
    refine JPg (rp_fieldC (off' := 6) rfl rfl fa_58_6 rfl) ?_
    refine JVg (rv_cell rfl rfl ag_3 (by repeat constructor) (by rfl)) ?_
    refine JPg (rp2 rfl rfl (fun ρ hx hy w => ex_eqlD rfl hx hy)) ?_
    refine JL_dec (fun h19 => ?_) (fun h19 => ?_)
    ·refine JP (rp_pickT rfl rfl rfl) ?_
     refine JN rfl rfl rfl rfl rfl ?_
     refine JL_nil ?_
     refine JQ_then_n ?_
     refine J_ret ?_
     refine JQ_then_r ?_
     refine JR_one rfl (rr_tmp rfl) ?_
     intro w' hw
     refine ⟨?_, hw.bel⟩
     refine congrArg (fun b => Ending.returned (.bool b)) ?_
     unfold befB
     first
      | (rw [if_pos (by omega)]; simp; omega)
      | (rw [if_neg (by omega)]; simp; omega)
      | (rw [if_neg (by omega)])
    ·refine JP (rp_pickT rfl rfl rfl) ?_
     refine JN rfl rfl rfl rfl rfl ?_
     refine JL_nil ?_
     refine JQ_then_n ?_
     refine J_ret ?_
     refine JQ_then_r ?_
     refine JR_one rfl (rr_tmp rfl) ?_
     intro w' hw
     refine ⟨?_, hw.bel⟩
     refine congrArg (fun b => Ending.returned (.bool b)) ?_
     unfold befB
     first
      | (rw [if_pos (by omega)]; simp; omega)
      | (rw [if_neg (by omega)]; simp; omega)
      | (rw [if_neg (by omega)])
   ·refine JM rfl rfl rfl rfl rfl ?_
    refine JF ?_
    refine JF ?_
    refine JF ?_
    refine JP (rp_pickF rfl rfl rfl) ?_
    refine JN rfl rfl rfl rfl rfl ?_
    refine JL_nil ?_
    refine JQ_then_n ?_
    refine J_ret ?_
    refine JQ_then_r ?_
    refine JR_one rfl (rr_tmp rfl) ?_
    intro w' hw
    refine ⟨?_, hw.bel⟩
    refine congrArg (fun b => Ending.returned (.bool b)) ?_
    unfold befB
    first
     | (rw [if_pos (by omega)]; simp; omega)
     | (rw [if_neg (by omega)]; simp; omega)
     | (rw [if_neg (by omega)])
  ·refine JP (rp_pickF rfl rfl rfl) ?_
   refine JL_nil ?_
   refine JQ_then_n ?_
   refine J_no rfl rfl ?_
   refine J_skip ?_
   refine JQ_then_n ?_
   refine J_seq ?_
   refine J_keep (l' := [(2, _), (3, _)]) ⟨rfl, rfl, trivial⟩ ?_
   refine J_reg ?_
   refine JP (rp_fieldC (off' := 7) rfl rfl fa_58_7 rfl) ?_
   refine JV (rv_cell rfl rfl ag_3 (by repeat constructor) (by rfl)) ?_
   refine JP (rp_fieldC (off' := 6) rfl rfl fa_58_6 rfl) ?_
   refine JV (rv_cell rfl rfl ag_3 (by repeat constructor) (by rfl)) ?_
   refine JP (rp2 rfl rfl (fun ρ hx hy w => ex_mul rfl hx hy (by omega))) ?_
   refine JP (rp_fieldC (off' := 7) rfl rfl fa_58_7 rfl) ?_
   refine JV (rv_cell rfl rfl ag_3 (by repeat constructor) (by rfl)) ?_
   refine JP (rp_fieldC (off' := 6) rfl rfl fa_58_6 rfl) ?_
   refine JV (rv_cell rfl rfl ag_3 (by repeat constructor) (by rfl)) ?_
   refine JP (rp2 rfl rfl (fun ρ hx hy w => ex_mul rfl hx hy (by omega))) ?_
   refine JP (rp2 rfl rfl (fun ρ hx hy w => ex_lssD rfl hx hy)) ?_
   refine JL_dec (fun h31 => ?_) (fun h31 => ?_)
   ·refine JN rfl rfl rfl rfl rfl ?_
    refine JL_nil ?_
    refine JQ_then_n ?_
    refine J_ret ?_
    refine JR_one rfl (rr_tmp rfl) ?_
    intro w' hw
    refine ⟨?_, hw.bel⟩
    refine congrArg (fun b => Ending.returned (.bool b)) ?_
    unfold befB
    first
     | (rw [if_pos (by omega)]; simp; omega)
     | (rw [if_neg (by omega)]; simp; omega)
     | (rw [if_neg (by omega)])
   ·refine JN rfl rfl rfl rfl rfl ?_
    refine JL_nil ?_
    refine JQ_then_n ?_
    refine J_ret ?_
    refine JR_one rfl (rr_tmp rfl) ?_
    intro w' hw
    refine ⟨?_, hw.bel⟩
    refine congrArg (fun b => Ending.returned (.bool b)) ?_
    unfold befB
    first
     | (rw [if_pos (by omega)]; simp; omega)
     | (rw [if_neg (by omega)]; simp; omega)
     | (rw [if_neg (by omega)])
end Go.Proofs.Ytlfbbofcnonhdaa
