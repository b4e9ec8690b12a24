import Derived.Test.YtlfbbofcnonhdaaJe
import Derived.Test.YtlfbbofcnonhdaaJt
import Derived.Test.YtlfbbofcnonhdaaSf
/- Contracts of brackets: CheckBracket. -/
namespace Go.Proofs.Ytlfbbofcnonhdaa
open Go Go.RowKit Go.Proofs

/-- A place is there, and is not taken. -/
def tkB (T : Int) (S : List (Int × Int)) (x : Int × Int) (i : Int) : Bool := decide (0 ≤ x.1 ∧ x.1 ≤ 2) && decide (0 ≤ x.2 ∧ x.2 ≤ (if x.1 = 0 then T else i) - 1) && !S.contains x
set_option maxRecDepth 100000 in
set_option maxHeartbeats 4000000 in
theorem take53 (T : Int) (S : List (Int × Int)) (x : Int × Int) (i : Int) (w : World) (bt bv bm : Nat) (h1 : w.cell? ⟨bt, 0, none⟩ = some (.int .i64 T)) (h3 : w.cell? ⟨bv, 0, none⟩ = some (.map (some bm))) (hm : (setB 89 bm S).holds w) (hne1 : ¬ bt = bm) (hne3 : ¬ bv = bm) (hx : W2 x) (hS : S.length < 1000000) (hT : 0 ≤ T ∧ T ≤ 1000) (hi : 0 ≤ i ∧ i ≤ 1000) : Calls Try.prog 53 #[Pv x.1 x.2, .int .i64 i, .pointer (some ⟨bt, 0, none⟩), .pointer (some ⟨bv, 0, none⟩)] w (RetM (setB 89 bm S) (fun _ : Unit => True) (fun _ => .bool (tkB T S x i)) (fun _ => setB 89 bm (x :: S)) w) := by
 refine J_enter (fun b => b = bm) (vs := [Pv x.1 x.2, .int .i64 i, .pointer (some ⟨bt, 0, none⟩), .pointer (some ⟨bv, 0, none⟩)]) (k := 31) (l := [(0, Pv x.1 x.2), (1, .int .i64 i), (2, .pointer (some ⟨bt, 0, none⟩)), (3, .pointer (some ⟨bv, 0, none⟩))]) Try.func53 rfl rfl Try.ntmps53 rfl rfl (Wd.startM (A := setB 89 bm S) hm (fun b hb => by cases hb; exact setB_lt hm)) ?_
 refine J_seq ?_
 refine J_reg ?_
 refine JL_op (wn0 rfl) (ow_box (vs := [_, _]) rfl rfl rfl rfl rfl) (fun b4 hb4 => ?_)
 refine JN rfl rfl rfl rfl rfl ?_
 refine JL_nil ?_
 refine JQ_then_n ?_
 refine J_seq ?_
 refine J_reg ?_
 refine JM rfl rfl rfl rfl rfl ?_
 refine JP (rp2 rfl rfl (fun ρ hx hy w => ex_sub rfl hx hy (by omega))) ?_
 refine JN rfl rfl rfl rfl rfl ?_
 refine JL_nil ?_
 refine JQ_then_n ?_
 refine J_seq ?_
 refine J_seq ?_
 refine J_keep (l' := [(2, _), (3, _), (4, _), (7, _)]) ⟨rfl, rfl, rfl, rfl, trivial⟩ ?_
 refine J_reg ?_
 refine JP (rp_fieldC (off' := 0) rfl rfl fa_89_0 rfl) ?_
 refine JV (rv_cell rfl rfl ag_3 (by repeat constructor) (by rfl)) ?_
 refine JP (rp2 rfl rfl (fun ρ hx hy w => ex_eqlD rfl hx hy)) ?_
 refine JL_dec (fun h13 => ?_) (fun h13 => ?_)
 ·refine JL_nil ?_
  refine JQ_then_n ?_
  refine J_yes rfl rfl ?_
  refine J_keep (l' := [(2, _), (3, _), (4, _)]) ⟨rfl, rfl, rfl, trivial⟩ ?_
  refine J_reg ?_
  refine JP (rp_fieldC (off' := 0) rfl rfl fa_25_0 rfl) ?_
  refine JV (rv_old rfl rfl ag_3 hne1 h1) ?_
  refine JP (rp2 rfl rfl (fun ρ hx hy w => ex_sub rfl hx hy (by omega))) ?_
  refine JN rfl rfl rfl rfl rfl ?_
  refine JL_nil ?_
  refine JQ_then_n ?_
  refine J_seq ?_
  refine J_keep (l' := [(3, _), (4, _), (7, _)]) ⟨rfl, rfl, rfl, trivial⟩ ?_
  refine J_reg ?_
  refine JP (rp_fieldC (off' := 0) rfl rfl fa_89_0 rfl) ?_
  refine JV (rv_cell rfl rfl ag_3 (by repeat constructor) (by rfl)) ?_
  refine JL_op (wn0 rfl) (ow_callP (ec_fn rfl rfl cf_47) rfl rfl (fun w hw => within47 x.1 0 2 w)) (fun _ _ => ?_)
  refine JL_bool (fun h19 => ?_) (fun h19 => ?_)
  ·refine JM rfl rfl rfl rfl rfl ?_
   refine JPg (rp_fieldC (off' := 1) rfl rfl fa_89_1 rfl) ?_
   refine JVg (rv_cell rfl rfl ag_3 (by repeat constructor) (by rfl)) ?_
   refine JPg (rp_move rfl rfl) ?_
   refine JL_op (wn_g rfl rfl rfl rfl) (ow_callP (ec_fn rfl rfl cf_47) rfl rfl (fun w hw => within47 x.2 0 (T - 1) w)) (fun _ _ => ?_)
   refine JL_bool (fun h24 => ?_) (fun h24 => ?_)
   ·refine JP (rp_pickT rfl rfl rfl) ?_
    refine JM rfl rfl rfl rfl rfl ?_
    refine JVg (rv_old rfl rfl ag_101 hne3 h3) ?_
    refine JVg (rv_agg (cs := [_, _]) rfl rfl ag_89 sz_89 (by repeat constructor) (by rfl)) ?_
    refine JVg (rv_lookS K89 x Try.underlying101 rfl rfl rfl (by repeat constructor) rfl hx) ?_
    refine JPg (rp1 rfl (fun ρ hx w => ex_not rfl hx)) ?_
    refine JP (rp_pickT rfl rfl rfl) ?_
    refine JN rfl rfl rfl rfl rfl ?_
    refine JL_nil ?_
    refine JQ_then_n ?_
    refine J_seq ?_
    refine J_keep (l' := [(3, _), (4, _), (8, _)]) ⟨rfl, rfl, rfl, trivial⟩ ?_
    refine J_reg ?_
    refine JV (rv_old rfl rfl ag_101 hne3 h3) ?_
    refine JV (rv_agg (cs := [_, _]) rfl rfl ag_89 sz_89 (by repeat constructor) (by rfl)) ?_
    refine JL_op (wn0 rfl) (ow_putS K89 x Try.underlying101 rfl rfl rfl rfl rfl rfl rfl (by repeat constructor) hx (by omega)) (fun _ _ => ?_)
    refine JL_nil ?_
    refine JQ_then_n ?_
    refine J_seq ?_
    refine J_keep (l' := [(8, _)]) ⟨rfl, trivial⟩ ?_
    refine J_reg ?_
    refine JM rfl rfl rfl rfl rfl ?_
    refine JN rfl rfl rfl rfl rfl ?_
    refine JL_nil ?_
    refine JQ_then_n ?_
    refine J_ret ?_
    refine JR_one rfl (rr_tmp rfl) ?_
    intro w' hw
    have e : tkB T S x i = !S.contains x := by unfold tkB; rw [if_pos (show x.1 = 0 from h13), h19, h24]; rfl
    rw [e]
    exact ⟨(), trivial, rfl, hw.pick (by repeat constructor)⟩
   ·refine JP (rp_pickT rfl rfl rfl) ?_
    refine JM rfl rfl rfl rfl rfl ?_
    refine JF ?_
    refine JF ?_
    refine JF ?_
    refine JF ?_
    refine JP (rp_pickF rfl rfl rfl) ?_
    refine JN rfl rfl rfl rfl rfl ?_
    refine JL_nil ?_
    refine JQ_then_n ?_
    refine J_seq ?_
    refine J_keep (l' := [(3, _), (4, _), (8, _)]) ⟨rfl, rfl, rfl, trivial⟩ ?_
    refine J_reg ?_
    refine JV (rv_old rfl rfl ag_101 hne3 h3) ?_
    refine JV (rv_agg (cs := [_, _]) rfl rfl ag_89 sz_89 (by repeat constructor) (by rfl)) ?_
    refine JL_op (wn0 rfl) (ow_putS K89 x Try.underlying101 rfl rfl rfl rfl rfl rfl rfl (by repeat constructor) hx (by omega)) (fun _ _ => ?_)
    refine JL_nil ?_
    refine JQ_then_n ?_
    refine J_seq ?_
    refine J_keep (l' := [(8, _)]) ⟨rfl, trivial⟩ ?_
    refine J_reg ?_
    refine JM rfl rfl rfl rfl rfl ?_
    refine JN rfl rfl rfl rfl rfl ?_
    refine JL_nil ?_
    refine JQ_then_n ?_
    refine J_ret ?_
    refine JR_one rfl (rr_tmp rfl) ?_
    intro w' hw
    have e : tkB T S x i = false := by unfold tkB; rw [if_pos (show x.1 = 0 from h13), h19, h24]; rfl
    rw [e]
    exact ⟨(), trivial, rfl, hw.pick (by repeat constructor)⟩
  ·refine JM rfl rfl rfl rfl rfl ?_
   refine JF ?_
   refine JF ?_
   refine JF ?_
   refine JF ?_
   refine JP (rp_pickF rfl rfl rfl) ?_
   refine JM rfl rfl rfl rfl rfl ?_
   refine JF ?_
   refine JF ?_
   refine JF ?_
   refine JF ?_
   refine JP (rp_pickF rfl rfl rfl) ?_
   refine JN rfl rfl rfl rfl rfl ?_
   refine JL_nil ?_
   refine JQ_then_n ?_
   refine J_seq ?_
   refine J_keep (l' := [(3, _), (4, _), (8, _)]) ⟨rfl, rfl, rfl, trivial⟩ ?_
   refine J_reg ?_
   refine JV (rv_old rfl rfl ag_101 hne3 h3) ?_
   refine JV (rv_agg (cs := [_, _]) rfl rfl ag_89 sz_89 (by repeat constructor) (by rfl)) ?_
   refine JL_op (wn0 rfl) (ow_putS K89 x Try.underlying101 rfl rfl rfl rfl rfl rfl rfl (by repeat constructor) hx (by omega)) (fun _ _ => ?_)
   refine JL_nil ?_
   refine JQ_then_n ?_
   refine J_seq ?_
   refine J_keep (l' := [(8, _)]) ⟨rfl, trivial⟩ ?_
   refine J_reg ?_
   refine JM rfl rfl rfl rfl rfl ?_
   refine JN rfl rfl rfl rfl rfl ?_
   refine JL_nil ?_
   refine JQ_then_n ?_
   refine J_ret ?_
   refine JR_one rfl (rr_tmp rfl) ?_
   intro w' hw
   have e : tkB T S x i = false := by unfold tkB; rw [h19]; rfl
   rw [e]
   exact ⟨(), trivial, rfl, hw.pick (by repeat constructor)⟩
 ·refine JL_nil ?_
  refine JQ_then_n ?_
  refine J_no rfl rfl ?_
  refine J_skip ?_
  refine JQ_then_n ?_
  refine J_seq ?_
  refine J_keep (l' := [(3, _), (4, _), (7, _)]) ⟨rfl, rfl, rfl, trivial⟩ ?_
  refine J_reg ?_
  refine JP (rp_fieldC (off' := 0) rfl rfl fa_89_0 rfl) ?_
  refine JV (rv_cell rfl rfl ag_3 (by repeat constructor) (by rfl)) ?_
  refine JL_op (wn0 rfl) (ow_callP (ec_fn rfl rfl cf_47) rfl rfl (fun w hw => within47 x.1 0 2 w)) (fun _ _ => ?_)
  refine JL_bool (fun h19 => ?_) (fun h19 => ?_)
  ·refine JM rfl rfl rfl rfl rfl ?_
   refine JPg (rp_fieldC (off' := 1) rfl rfl fa_89_1 rfl) ?_
   refine JVg (rv_cell rfl rfl ag_3 (by repeat constructor) (by rfl)) ?_
   refine JPg (rp_move rfl rfl) ?_
   refine JL_op (wn_g rfl rfl rfl rfl) (ow_callP (ec_fn rfl rfl cf_47) rfl rfl (fun w hw => within47 x.2 0 (i - 1) w)) (fun _ _ => ?_)
   refine JL_bool (fun h24 => ?_) (fun h24 => ?_)
   ·refine JP (rp_pickT rfl rfl rfl) ?_
    refine JM rfl rfl rfl rfl rfl ?_
    refine JVg (rv_old rfl rfl ag_101 hne3 h3) ?_
    refine JVg (rv_agg (cs := [_, _]) rfl rfl ag_89 sz_89 (by repeat constructor) (by rfl)) ?_
    refine JVg (rv_lookS K89 x Try.underlying101 rfl rfl rfl (by repeat constructor) rfl hx) ?_
    refine JPg (rp1 rfl (fun ρ hx w => ex_not rfl hx)) ?_
    refine JP (rp_pickT rfl rfl rfl) ?_
    refine JN rfl rfl rfl rfl rfl ?_
    refine JL_nil ?_
    refine JQ_then_n ?_
    refine J_seq ?_
    refine J_keep (l' := [(3, _), (4, _), (8, _)]) ⟨rfl, rfl, rfl, trivial⟩ ?_
    refine J_reg ?_
    refine JV (rv_old rfl rfl ag_101 hne3 h3) ?_
    refine JV (rv_agg (cs := [_, _]) rfl rfl ag_89 sz_89 (by repeat constructor) (by rfl)) ?_
    refine JL_op (wn0 rfl) (ow_putS K89 x Try.underlying101 rfl rfl rfl rfl rfl rfl rfl (by repeat constructor) hx (by omega)) (fun _ _ => ?_)
    refine JL_nil ?_
    refine JQ_then_n ?_
    refine J_seq ?_
    refine J_keep (l' := [(8, _)]) ⟨rfl, trivial⟩ ?_
    refine J_reg ?_
    refine JM rfl rfl rfl rfl rfl ?_
    refine JN rfl rfl rfl rfl rfl ?_
    refine JL_nil ?_
    refine JQ_then_n ?_
    refine J_ret ?_
    refine JR_one rfl (rr_tmp rfl) ?_
    intro w' hw
    have e : tkB T S x i = !S.contains x := by unfold tkB; rw [if_neg (show ¬ x.1 = 0 from h13), h19, h24]; rfl
    rw [e]
    exact ⟨(), trivial, rfl, hw.pick (by repeat constructor)⟩
   ·refine JP (rp_pickT rfl rfl rfl) ?_
    refine JM rfl rfl rfl rfl rfl ?_
    refine JF ?_
    refine JF ?_
    refine JF ?_
    refine JF ?_
    refine JP (rp_pickF rfl rfl rfl) ?_
    refine JN rfl rfl rfl rfl rfl ?_
    refine JL_nil ?_
    refine JQ_then_n ?_
    refine J_seq ?_
    refine J_keep (l' := [(3, _), (4, _), (8, _)]) ⟨rfl, rfl, rfl, trivial⟩ ?_
    refine J_reg ?_
    refine JV (rv_old rfl rfl ag_101 hne3 h3) ?_
    refine JV (rv_agg (cs := [_, _]) rfl rfl ag_89 sz_89 (by repeat constructor) (by rfl)) ?_
    refine JL_op (wn0 rfl) (ow_putS K89 x Try.underlying101 rfl rfl rfl rfl rfl rfl rfl (by repeat constructor) hx (by omega)) (fun _ _ => ?_)
    refine JL_nil ?_
    refine JQ_then_n ?_
    refine J_seq ?_
    refine J_keep (l' := [(8, _)]) ⟨rfl, trivial⟩ ?_
    refine J_reg ?_
    refine JM rfl rfl rfl rfl rfl ?_
    refine JN rfl rfl rfl rfl rfl ?_
    refine JL_nil ?_
    refine JQ_then_n ?_
    refine J_ret ?_
    refine JR_one rfl (rr_tmp rfl) ?_
    intro w' hw
    have e : tkB T S x i = false := by unfold tkB; rw [if_neg (show ¬ x.1 = 0 from h13), h19, h24]; rfl
    rw [e]
    exact ⟨(), trivial, rfl, hw.pick (by repeat constructor)⟩
  ·refine JM rfl rfl rfl rfl rfl ?_
   refine JF ?_
   refine JF ?_
   refine JF ?_
   refine JF ?_
   refine JP (rp_pickF rfl rfl rfl) ?_
   refine JM rfl rfl rfl rfl rfl ?_
   refine JF ?_
   refine JF ?_
   refine JF ?_
   refine JF ?_
   refine JP (rp_pickF rfl rfl rfl) ?_
   refine JN rfl rfl rfl rfl rfl ?_
   refine JL_nil ?_
   refine JQ_then_n ?_
   refine J_seq ?_
   refine J_keep (l' := [(3, _), (4, _), (8, _)]) ⟨rfl, rfl, rfl, trivial⟩ ?_
   refine J_reg ?_
   refine JV (rv_old rfl rfl ag_101 hne3 h3) ?_
   refine JV (rv_agg (cs := [_, _]) rfl rfl ag_89 sz_89 (by repeat constructor) (by rfl)) ?_
   refine JL_op (wn0 rfl) (ow_putS K89 x Try.underlying101 rfl rfl rfl rfl rfl rfl rfl (by repeat constructor) hx (by omega)) (fun _ _ => ?_)
   refine JL_nil ?_
   refine JQ_then_n ?_
   refine J_seq ?_
   refine J_keep (l' := [(8, _)]) ⟨rfl, trivial⟩ ?_
   refine J_reg ?_
   refine JM rfl rfl rfl rfl rfl ?_
   refine JN rfl rfl rfl rfl rfl ?_
   refine JL_nil ?_
   refine JQ_then_n ?_
   refine J_ret ?_
   refine JR_one rfl (rr_tmp rfl) ?_
   intro w' hw
   have e : tkB T S x i = false := by unfold tkB; rw [h19]; rfl
   rw [e]
   exact ⟨(), trivial, rfl, hw.pick (by repeat constructor)⟩
set_option maxRecDepth 100000 in
set_option maxHeartbeats 4000000 in
theorem take55 (T : Int) (S : List (Int × Int)) (x : Int × Int) (w : World) (bt bv bf bm n cg : Nat) (Ag : Option Addr) (h1 : w.cell? ⟨bt, 0, none⟩ = some (.int .i64 T)) (hg : w.cell? ⟨bt, 1, none⟩ = some (.slice Ag n cg)) (h3 : w.cell? ⟨bv, 0, none⟩ = some (.map (some bm))) (h4 : w.cell? ⟨bf, 0, none⟩ = some (.func (.func 53) #[] #[.pointer (some ⟨bt, 0, none⟩), .pointer (some ⟨bv, 0, none⟩)])) (hne1 : ¬ bt = bm) (hne3 : ¬ bv = bm) (hne4 : ¬ bf = bm) (hT : 0 ≤ T ∧ T ≤ 1000) (hn : n ≤ 1000) (hm : (setB 89 bm S).holds w) (hx : W2 x) (hS : S.length < 1000000) : Calls Try.prog 55 #[Pv x.1 x.2, .pointer (some ⟨bf, 0, none⟩), .pointer (some ⟨bt, 0, none⟩)] w (RetM (setB 89 bm S) (fun _ : Unit => True) (fun _ => .bool (!tkB T S x n)) (fun _ => setB 89 bm (x :: S)) w) := by
 refine J_enter (fun b => b = bm) (vs := [Pv x.1 x.2, .pointer (some ⟨bf, 0, none⟩), .pointer (some ⟨bt, 0, none⟩)]) (k := 9) (l := [(0, Pv x.1 x.2), (1, .pointer (some ⟨bf, 0, none⟩)), (2, .pointer (some ⟨bt, 0, none⟩))]) Try.func55 rfl rfl Try.ntmps55 rfl rfl (Wd.startM (A := setB 89 bm S) hm (fun b hb => by cases hb; exact setB_lt hm)) ?_
 refine J_seq ?_
 refine J_reg ?_
 refine JL_op (wn0 rfl) (ow_box (vs := [_, _]) rfl rfl rfl rfl rfl) (fun b3 hb3 => ?_)
 refine JN rfl rfl rfl rfl rfl ?_
 refine JL_nil ?_
 refine JQ_then_n ?_
 refine J_seq ?_
 refine J_reg ?_
 refine JV (rv_old rfl rfl ag_102 hne4 h4) ?_
 refine JV (rv_agg (cs := [_, _]) rfl rfl ag_89 sz_89 (by repeat constructor) (by rfl)) ?_
 refine JP (rp_fieldC (off' := 1) rfl rfl fa_25_1 rfl) ?_
 refine JV (rv_old rfl rfl ag_22 hne1 hg) ?_
 refine JP (rp1 rfl (fun ρ hx w => ex_len (A := _) (c := _) rfl Try.underlying22 hx)) ?_
 refine JL_op (wn0 rfl) (ow_callM (A := setB 89 bm S) (ec_valE (args := #[Pv x.1 x.2, .int .i64 (n : Nat), .pointer (some ⟨bt, 0, none⟩), .pointer (some ⟨bv, 0, none⟩)]) rfl rfl rfl cf_53 rfl) rfl rfl rfl (fun _ => rfl) (fun _ => (by repeat constructor)) (fun w hw => take53 T S x n w bt bv bm (hw.old hne1 h1) (hw.old hne3 h3) (hw.ok _ (by repeat constructor)).1 hne1 hne3 hx hS hT ⟨by omega, by omega⟩)) (fun _ _ => ?_)
 refine JP (rp1 rfl (fun ρ hx w => ex_not rfl hx)) ?_
 refine JN rfl rfl rfl rfl rfl ?_
 refine JL_nil ?_
 refine JQ_then_n ?_
 refine J_ret ?_
 refine JR_one rfl (rr_tmp rfl) ?_
 intro w' hw
 exact ⟨(), trivial, rfl, hw.pick (by repeat constructor)⟩
/-- Places, one behind another, are there and are not taken. -/
def allB (T : Int) (n : Int) : List (Int × Int) → List (Int × Int) → Bool
 | _, [] => true
 | S, x :: l => tkB T S x n && allB T n (x :: S) l
theorem rev_snoc {α : Type} (l S : List α) (k : Nat) (h : k < l.length) : (l.take (k + 1)).reverse ++ S = l[k]'h :: ((l.take k).reverse ++ S) := by
 rw [List.take_succ_eq_append_getElem h, List.reverse_append]; rfl
theorem allB_step {T n : Int} {S l : List (Int × Int)} {k : Nat} (h : k < l.length) : allB T n S (l.drop k) = (tkB T S (l[k]'h) n && allB T n (l[k]'h :: S) (l.drop (k + 1))) := by
 rw [List.drop_eq_getElem_cons h]; rfl
set_option maxRecDepth 100000 in
set_option maxHeartbeats 4000000 in
theorem index82 (T : Int) (S l : List (Int × Int)) (w : World) (bt bv bf bm n cg cap : Nat) (A Ag : Option Addr) (h1 : w.cell? ⟨bt, 0, none⟩ = some (.int .i64 T)) (hg : w.cell? ⟨bt, 1, none⟩ = some (.slice Ag n cg)) (h3 : w.cell? ⟨bv, 0, none⟩ = some (.map (some bm))) (h4 : w.cell? ⟨bf, 0, none⟩ = some (.func (.func 53) #[] #[.pointer (some ⟨bt, 0, none⟩), .pointer (some ⟨bv, 0, none⟩)])) (hne1 : ¬ bt = bm) (hne3 : ¬ bv = bm) (hne4 : ¬ bf = bm) (hT : 0 ≤ T ∧ T ≤ 1000) (hn : n ≤ 1000) (hm : (setB 89 bm S).holds w) (hrow : Arr 2 eP w (.slice A l.length cap) l) (hneA : l ≠ [] → ∀ b o, A = some ⟨b, o, none⟩ → ¬ b = bm) (hx : ∀ x ∈ l, W2 x) (hS : S.length + l.length < 1000000) : Calls Try.prog 82 #[.slice A l.length cap, .func (.func 55) #[] #[.pointer (some ⟨bf, 0, none⟩), .pointer (some ⟨bt, 0, none⟩)]] w (RetM (setB 89 bm S) (fun t : Int × List (Int × Int) => decide (0 ≤ t.1) = !allB T n S l) (fun t => .int .i64 t.1) (fun t => setB 89 bm t.2) w) := by
 refine J_enter (fun b => b = bm) (vs := [.slice A l.length cap, .func (.func 55) #[] #[.pointer (some ⟨bf, 0, none⟩), .pointer (some ⟨bt, 0, none⟩)]]) (k := 17) (l := [(0, .slice A l.length cap), (1, .func (.func 55) #[] #[.pointer (some ⟨bf, 0, none⟩), .pointer (some ⟨bt, 0, none⟩)])]) Try.func82 rfl rfl Try.ntmps82 rfl rfl (Wd.startM (A := setB 89 bm S) hm (fun b hb => by cases hb; exact setB_lt hm)) ?_
 refine J_seq ?_
 refine J_reg ?_
 refine JN rfl rfl rfl rfl rfl ?_
 refine JL_nil ?_
 refine JQ_then_n ?_
 refine J_seq ?_
 refine J_seq ?_
 refine J_reg ?_
 refine JM rfl rfl rfl rfl rfl ?_
 refine JP (rp1 rfl (fun ρ hx w => ex_len (A := _) (c := _) rfl Try.underlying23 hx)) ?_
 refine JM rfl rfl rfl rfl rfl ?_
 refine JL_nil ?_
 refine JQ_then_n ?_
 refine J_block ?_
 refine J_loop (T := Nat) (fun k => k ≤ l.length ∧ allB T n S l = allB T n ((l.take k).reverse ++ S) (l.drop k)) (fun k => [(1, .func (.func 55) #[] #[.pointer (some ⟨bf, 0, none⟩), .pointer (some ⟨bt, 0, none⟩)]), (6, .slice A l.length cap), (7, .int .i64 (l.length : Nat)), (8, .int .i64 (k : Nat)), (0, .slice A l.length cap)]) (fun k => [setB 89 bm ((l.take k).reverse ++ S)]) (fun k => l.length - k) 0 ⟨Nat.zero_le _, rfl⟩ ⟨rfl, rfl, rfl, rfl, rfl, trivial⟩ (by repeat constructor) ?_
 rintro k ⟨hk, hall⟩
 refine J_seq ?_
 refine J_reg ?_
 refine JP (rp2 rfl rfl (fun ρ hx hy w => ex_lssD rfl hx hy)) ?_
 refine JL_dec (fun h9 => ?_) (fun h9 => ?_)
 ·refine JL_nil ?_
  refine JQ_then_n ?_
  refine J_seq ?_
  refine J_yes rfl rfl ?_
  refine J_skip ?_
  refine JQ_then_n ?_
  refine J_seq ?_
  refine J_block ?_
  refine J_seq ?_
  have hlt : k < l.length := by omega
  obtain ⟨A0, c0, e0, -, -, hA⟩ := id hrow
  injection e0 with e1 e2 e3
  subst e1 e3
  obtain ⟨b, p, rfl, hh⟩ := hA (by intro e; subst e; simp at hlt)
  have hneb := hneA (by intro e; subst e; simp at hlt) b p rfl
  have hlS : ((l.take k).reverse ++ S).length ≤ S.length + l.length := by rw [List.length_append, List.length_reverse, List.length_take]; omega
  refine J_reg ?_
  refine JM rfl rfl rfl rfl rfl ?_
  refine JN rfl rfl rfl rfl rfl ?_
  refine JL_nil ?_
  refine JQ_then_n ?_
  refine J_seq ?_
  refine J_reg ?_
  refine JM rfl rfl rfl rfl rfl ?_
  refine JM rfl rfl rfl rfl rfl ?_
  refine JM rfl rfl rfl rfl rfl ?_
  refine JP (rp2 rfl rfl (fun ρ hx hy w => ex_indexE rfl hx hy Try.underlying23 sz_89 (by omega))) ?_
  refine JV (rv_holdagg EP rfl rfl ag_89 sz_89 hneb hh (by omega) rfl) ?_
  refine JL_op (wn0 rfl) (ow_callM (A := setB 89 bm ((l.take k).reverse ++ S)) (ec_valE (args := #[Pv (l[k]'hlt).1 (l[k]'hlt).2, .pointer (some ⟨bf, 0, none⟩), .pointer (some ⟨bt, 0, none⟩)]) rfl rfl rfl cf_55 rfl) rfl rfl rfl (fun _ => rfl) (fun _ => (by repeat constructor)) (fun w hw => take55 T _ (l[k]'hlt) w bt bv bf bm n cg Ag (hw.old hne1 h1) (hw.old hne1 hg) (hw.old hne3 h3) (hw.old hne4 h4) hne1 hne3 hne4 hT hn (hw.ok _ (by repeat constructor)).1 (hx _ (List.getElem_mem hlt)) (by omega))) (fun _ _ => ?_)
  refine JL_bool (fun h16 => ?_) (fun h16 => ?_)
  ·refine JL_nil ?_
   refine JQ_then_n ?_
   refine J_yes rfl rfl ?_
   refine J_seq ?_
   refine J_keep (l' := [(5, _)]) ⟨rfl, trivial⟩ ?_
   refine J_reg ?_
   refine JM rfl rfl rfl rfl rfl ?_
   refine JN rfl rfl rfl rfl rfl ?_
   refine JL_nil ?_
   refine JQ_then_n ?_
   refine J_ret ?_
   refine JQ_block_r ?_
   refine JQ_then_r ?_
   refine JQ_then_r ?_
   refine JQ_block_r ?_
   refine JQ_then_r ?_
   refine JR_one rfl (rr_tmp rfl) ?_
   intro w' hw
   have htk : tkB T ((l.take k).reverse ++ S) (l[k]'hlt) n = false := by simpa using h16
   refine ⟨(((k : Nat) : Int), _), ?_, rfl, hw.pick (by repeat constructor)⟩
   rw [hall, allB_step hlt, htk]
   exact decide_eq_true (by dsimp only; omega)
  ·have htk : tkB T ((l.take k).reverse ++ S) (l[k]'hlt) n = true := by simpa using h16
   refine JL_nil ?_
   refine JQ_then_n ?_
   refine J_no rfl rfl ?_
   refine J_skip ?_
   refine JQ_block_n ?_
   refine JQ_then_n ?_
   refine J_keep (l' := [(0, _), (1, _), (6, _), (7, _), (8, _)]) ⟨rfl, rfl, rfl, rfl, rfl, trivial⟩ ?_
   refine J_reg ?_
   refine JP (rp2 rfl rfl (fun ρ hx hy w => ex_add rfl hx hy (by omega))) ?_
   refine JM rfl rfl rfl rfl rfl ?_
   refine JL_nil ?_
   exact JQ_round (k + 1) ⟨by omega, by rw [hall, allB_step hlt, htk, rev_snoc l S k hlt]; rfl⟩ (by omega) ⟨rfl, rfl, rfl, (congrArg some (by go_num)), rfl, trivial⟩ (by (try dsimp only); rw [rev_snoc l S k hlt]; repeat (first | exact Pk.nil _ | (refine Pk.pick (by repeat (first | exact Rm.here _ | apply Rm.there)) ?_)))
 ·refine JL_nil ?_
  refine JQ_then_n ?_
  refine J_seq ?_
  refine J_no rfl rfl ?_
  refine J_exit ?_
  refine JQ_then_x ?_
  refine JQ_then_x ?_
  refine JQ_block_y rfl ?_
  refine JQ_then_n ?_
  refine J_seq ?_
  refine J_keep (l' := []) trivial ?_
  refine J_reg ?_
  refine JN rfl rfl rfl rfl rfl ?_
  refine JL_nil ?_
  refine JQ_then_n ?_
  refine J_ret ?_
  refine JR_one rfl (rr_tmp rfl) ?_
  intro w' hw
  obtain rfl : k = l.length := by omega
  refine ⟨(-1, _), ?_, rfl, hw.pick (by repeat constructor)⟩
  rw [hall, List.drop_length]
  exact decide_eq_false (by dsimp only; omega)
theorem Arr.upM {α : Type} {k : Nat} {enc : α → List Value} {B : Bs} {H : List It} {w : World} {A : Option Addr} {n c : Nat} {l : List α} (E : Enc k enc) (h : Arr k enc B.w (.slice A n c) l) (hw : Wd B H w) (hne : l ≠ [] → ∀ b o, A = some ⟨b, o, none⟩ → ¬ B.m b) : Arr k enc w (.slice A n c) l := by
 obtain ⟨A0, c0, e0, h2, h3, hA⟩ := h
 injection e0 with e1 e2 e3
 subst e1 e2 e3
 refine ⟨A, c, rfl, h2, h3, fun hn => ?_⟩
 obtain ⟨b, o, rfl, hh⟩ := hA hn
 refine ⟨b, o, rfl, fun j hj i hi => ?_⟩
 have h4 := hh j hj i hi
 have h5 : i < (enc (l[j]'hj)).length := by rw [E.len]; exact hi
 rw [List.getElem?_eq_getElem h5] at h4 ⊢
 exact hw.old (hne hn b o rfl) h4
set_option maxRecDepth 100000 in
set_option maxHeartbeats 4000000 in
theorem contains54 (T : Int) (S l : List (Int × Int)) (w : World) (bt bv bf bm n cg cap : Nat) (A Ag : Option Addr) (h1 : w.cell? ⟨bt, 0, none⟩ = some (.int .i64 T)) (hg : w.cell? ⟨bt, 1, none⟩ = some (.slice Ag n cg)) (h3 : w.cell? ⟨bv, 0, none⟩ = some (.map (some bm))) (h4 : w.cell? ⟨bf, 0, none⟩ = some (.func (.func 53) #[] #[.pointer (some ⟨bt, 0, none⟩), .pointer (some ⟨bv, 0, none⟩)])) (hne1 : ¬ bt = bm) (hne3 : ¬ bv = bm) (hne4 : ¬ bf = bm) (hT : 0 ≤ T ∧ T ≤ 1000) (hn : n ≤ 1000) (hm : (setB 89 bm S).holds w) (hrow : Arr 2 eP w (.slice A l.length cap) l) (hneA : l ≠ [] → ∀ b o, A = some ⟨b, o, none⟩ → ¬ b = bm) (hx : ∀ x ∈ l, W2 x) (hS : S.length + l.length < 1000000) : Calls Try.prog 54 #[.slice A l.length cap, .func (.func 55) #[] #[.pointer (some ⟨bf, 0, none⟩), .pointer (some ⟨bt, 0, none⟩)]] w (RetM (setB 89 bm S) (fun _ : List (Int × Int) => True) (fun _ => .bool (!allB T n S l)) (fun t => setB 89 bm t) w) := by
 refine J_enter (fun b => b = bm) (vs := [.slice A l.length cap, .func (.func 55) #[] #[.pointer (some ⟨bf, 0, none⟩), .pointer (some ⟨bt, 0, none⟩)]]) (k := 7) (l := [(0, .slice A l.length cap), (1, .func (.func 55) #[] #[.pointer (some ⟨bf, 0, none⟩), .pointer (some ⟨bt, 0, none⟩)])]) Try.func54 rfl rfl Try.ntmps54 rfl rfl (Wd.startM (A := setB 89 bm S) hm (fun b hb => by cases hb; exact setB_lt hm)) ?_
 refine J_seq ?_
 refine J_reg ?_
 refine JN rfl rfl rfl rfl rfl ?_
 refine JL_nil ?_
 refine JQ_then_n ?_
 refine J_seq ?_
 refine J_reg ?_
 refine JM rfl rfl rfl rfl rfl ?_
 refine JM rfl rfl rfl rfl rfl ?_
 refine JL_op (wn0 rfl) (ow_callM (A := setB 89 bm S) (ec_fn rfl rfl cf_82) rfl rfl rfl (fun _ => rfl) (fun _ => (by repeat constructor)) (fun w hw => index82 T S l w bt bv bf bm n cg cap A Ag (hw.old hne1 h1) (hw.old hne1 hg) (hw.old hne3 h3) (hw.old hne4 h4) hne1 hne3 hne4 hT hn (hw.ok _ (by repeat constructor)).1 (Arr.upM EP hrow hw hneA) hneA hx hS)) (fun t7 ht7 => ?_)
 refine JP (rp2 rfl rfl (fun ρ hx hy w => ex_geqD rfl hx hy)) ?_
 refine JN rfl rfl rfl rfl rfl ?_
 refine JL_nil ?_
 refine JQ_then_n ?_
 refine J_ret ?_
 refine JR_one rfl (rr_tmp rfl) ?_
 intro w' hw
 exact ⟨t7.2, trivial, by rw [← ht7], hw.pick (by repeat constructor)⟩
end Go.Proofs.Ytlfbbofcnonhdaa

/- Contracts of brackets: CheckBracket, whole. -/
namespace Go.Proofs.Ytlfbbofcnonhdaa
open Go Go.RowKit Go.Proofs

abbrev Gm := (Int × Int) × (Int × Int)
/-- The places that games take. -/
def flG (G : List Gm) : List (Int × Int) := G.flatMap fun g => [g.1, g.2]
/-- All games' places are there, and are not taken. -/
def gmB (T : Int) : List (Int × Int) → Int → List Gm → Bool
 | _, _, [] => true
 | S, i, g :: G => (tkB T S g.1 i && tkB T (g.1 :: S) g.2 i) && gmB T (g.2 :: g.1 :: S) (i + 1) G
def cbB (T : Int) (G : List Gm) (R : List (Int × Int)) : Bool := decide (2 ≤ T ∧ T ≤ 16) && decide (1 ≤ (G.length : Int) ∧ (G.length : Int) ≤ 64) && decide ((R.length : Int) = T) && gmB T [] 0 G && allB T G.length (flG G).reverse R
abbrev Brv (T : Int) (A : Option Addr) (n c : Nat) (A2 : Option Addr) (n2 c2 : Nat) : Value := .agg #[.int .i64 T, .slice A n c, .slice A2 n2 c2]
theorem flG_snoc (G : List Gm) (k : Nat) (h : k < G.length) : (flG (G.take (k + 1))).reverse = (G[k]'h).2 :: (G[k]'h).1 :: (flG (G.take k)).reverse := by
 rw [List.take_succ_eq_append_getElem h]
 unfold flG
 rw [List.flatMap_append, List.reverse_append]; rfl
theorem flG_len (G : List Gm) : (flG G).length = 2 * G.length := by
 induction G with
 | nil => rfl
 | cons g G ih => unfold flG at ih ⊢; rw [List.flatMap_cons, List.length_append, ih]; simp; omega
theorem gmB_step {T i : Int} {S : List (Int × Int)} {G : List Gm} {k : Nat} (h : k < G.length) : gmB T S i (G.drop k) = ((tkB T S (G[k]'h).1 i && tkB T ((G[k]'h).1 :: S) (G[k]'h).2 i) && gmB T ((G[k]'h).2 :: (G[k]'h).1 :: S) (i + 1) (G.drop (k + 1))) := by
 rw [List.drop_eq_getElem_cons h]; rfl
theorem Wd.ne {B : Bs} {H : List It} {w : World} {b b' kt ty : Nat} {vs : List Value} {S : List (Int × Int)} (hw : Wd B H w) (hk : Pk [cellB b vs ty, setB kt b' S] H) : ¬ b = b' := fun e => by
 have h := (List.pairwise_cons.1 (hw.pick hk).sep).1 (setB kt b' S) (by simp)
 rcases h with ⟨h, -⟩ | h
 ·cases h
 ·exact h b rfl e
theorem Arr.lt {α : Type} {k : Nat} {enc : α → List Value} {w : World} {A : Option Addr} {n c b o : Nat} {l : List α} (E : Enc k enc) (hk : 0 < k) (h : Arr k enc w (.slice A n c) l) (hn : l ≠ []) (e : A = some ⟨b, o, none⟩) : b < w.heap.size := by
 obtain ⟨A0, c0, e0, h2, h3, hA⟩ := h
 injection e0 with e1 e2 e3
 subst e1 e2 e3
 obtain ⟨b', o', e', hh⟩ := hA hn
 rw [e] at e'
 injection e' with e'
 injection e' with e1 e2 _
 subst e1 e2
 have h0 := List.length_pos_iff.2 hn
 have h4 := hh 0 h0 0 hk
 have h5 : 0 < (enc (l[0]'h0)).length := by rw [E.len]; exact hk
 rw [List.getElem?_eq_getElem h5] at h4
 rcases Nat.lt_or_ge b w.heap.size with h | h
 ·exact h
 ·rw [World.cell?, Array.getElem?_eq_none h] at h4; cases h4
set_option maxRecDepth 100000 in
set_option maxHeartbeats 4000000 in
theorem Check17 (T : Int) (G : List Gm) (R : List (Int × Int)) (w : World) (A A2 : Option Addr) (cap cap2 : Nat) (hG : Arr 4 eG w (.slice A G.length cap) G) (hR : Arr 2 eP w (.slice A2 R.length cap2) R) (hG2 : ∀ g ∈ G, W2 g.1 ∧ W2 g.2) (hR2 : ∀ x ∈ R, W2 x) : Calls Try.prog 17 #[Brv T A G.length cap A2 R.length cap2] w (Back (.bool (cbB T G R)) w) := by
 obtain ⟨Ag, cg, eg, -, -, hA⟩ := id hG
 injection eg with e1 e2 e3
 subst e1 e3
 refine J_enter (fun _ => False) (vs := [Brv T A G.length cap A2 R.length cap2]) (k := 55) (l := [(0, Brv T A G.length cap A2 R.length cap2)]) Try.func17 rfl rfl Try.ntmps17 rfl rfl (Wd.start _) ?_
 refine J_seq ?_
 refine J_reg ?_
 refine JL_op (wn0 rfl) (ow_box (vs := [_, _, _]) rfl rfl rfl rfl rfl) (fun b1 hb1 => ?_)
 refine JN rfl rfl rfl rfl rfl ?_
 refine JL_nil ?_
 refine JQ_then_n ?_
 refine J_seq ?_
 refine J_seq ?_
 refine J_reg ?_
 refine JP (rp_fieldC (off' := 0) rfl rfl fa_25_0 rfl) ?_
 refine JV (rv_cell rfl rfl ag_3 (by repeat constructor) (by rfl)) ?_
 refine JL_op (wn0 rfl) (ow_callP (ec_fn rfl rfl cf_47) rfl rfl (fun w hw => within47 T 2 16 w)) (fun _ _ => ?_)
 refine JL_bool (fun h9 => ?_) (fun h9 => ?_)
 ·refine JP (rp1 rfl (fun ρ hx w => ex_not rfl hx)) ?_
  refine JM rfl rfl rfl rfl rfl ?_
  refine JPg (rp_fieldC (off' := 1) rfl rfl fa_25_1 rfl) ?_
  refine JVg (rv_cell rfl rfl ag_22 (by repeat constructor) (by rfl)) ?_
  refine JPg (rp1 rfl (fun ρ hx w => ex_len (A := _) (c := _) rfl Try.underlying22 hx)) ?_
  refine JL_op (wn_g rfl rfl rfl rfl) (ow_callP (ec_fn rfl rfl cf_47) rfl rfl (fun w hw => within47 G.length 1 64 w)) (fun _ _ => ?_)
  refine JL_bool (fun h15 => ?_) (fun h15 => ?_)
  ·refine JPg (rp1 rfl (fun ρ hx w => ex_not rfl hx)) ?_
   refine JP (rp_pickF rfl rfl rfl) ?_
   refine JM rfl rfl rfl rfl rfl ?_
   refine JPg (rp_fieldC (off' := 2) rfl rfl fa_25_2 rfl) ?_
   refine JVg (rv_cell rfl rfl ag_23 (by repeat constructor) (by rfl)) ?_
   refine JPg (rp1 rfl (fun ρ hx w => ex_len (A := _) (c := _) rfl Try.underlying23 hx)) ?_
   refine JPg (rp_fieldC (off' := 0) rfl rfl fa_25_0 rfl) ?_
   refine JVg (rv_cell rfl rfl ag_3 (by repeat constructor) (by rfl)) ?_
   refine JPg (rp2 rfl rfl (fun ρ hx hy w => ex_neqD rfl hx hy)) ?_
   refine JL_dec (fun h24 => ?_) (fun h24 => ?_)
   ·refine JP (rp_pickF rfl rfl rfl) ?_
    refine JL_nil ?_
    refine JQ_then_n ?_
    refine J_yes rfl rfl ?_
    refine J_seq ?_
    refine J_keep (l' := []) trivial ?_
    refine J_reg ?_
    refine JN rfl rfl rfl rfl rfl ?_
    refine JL_nil ?_
    refine JQ_then_n ?_
    refine J_ret ?_
    refine JQ_then_r ?_
    refine JR_one rfl (rr_tmp rfl) ?_
    intro w' hw
    have e : cbB T G R = false := by unfold cbB; rw [h9, h15, decide_eq_false (by omega)]; rfl
    rw [e]
    exact ⟨rfl, hw.bel⟩
   ·refine JP (rp_pickF rfl rfl rfl) ?_
    refine JL_nil ?_
    refine JQ_then_n ?_
    refine J_no rfl rfl ?_
    refine J_skip ?_
    refine JQ_then_n ?_
    refine J_seq ?_
    have hRT : (R.length : Int) = T := by omega
    have hTb := of_decide_eq_true h9
    have hGb := of_decide_eq_true h15
    refine J_keep (l' := [(1, _)]) ⟨rfl, trivial⟩ ?_
    refine J_reg ?_
    refine JL_op (wn0 rfl) (ow_makeSet (kt := 89) rfl rfl rfl (fun _ => by kernel_rfl)) (fun b26 hb26 => ?_)
    refine JL_op (wn0 rfl) (ow_alloc rfl rfl zv_101 rfl rfl) (fun b3 hb3 => ?_)
    refine JL_op (wn0 rfl) (ow_store (cs := [_]) (vs' := [_]) rfl rfl rfl rfl rfl sz_101 rfl (by repeat constructor) (by rfl) (by rfl)) (fun _ _ => ?_)
    refine JL_nil ?_
    refine JQ_then_n ?_
    refine J_seq ?_
    refine J_reg ?_
    refine JP (rp_func rfl rfl rfl) ?_
    refine JL_op (wn0 rfl) (ow_alloc rfl rfl zv_102 rfl rfl) (fun b4 hb4 => ?_)
    refine JL_op (wn0 rfl) (ow_store (cs := [_]) (vs' := [_]) rfl rfl rfl rfl rfl sz_102 rfl (by repeat constructor) (by rfl) (by rfl)) (fun _ _ => ?_)
    refine JL_nil ?_
    refine JQ_then_n ?_
    refine J_seq ?_
    refine J_seq ?_
    refine J_reg ?_
    refine JP (rp_fieldC (off' := 1) rfl rfl fa_25_1 rfl) ?_
    refine JV (rv_cell rfl rfl ag_22 (by repeat constructor) (by rfl)) ?_
    refine JP (rp1 rfl (fun ρ hx w => ex_len (A := _) (c := _) rfl Try.underlying22 hx)) ?_
    refine JM rfl rfl rfl rfl rfl ?_
    refine JL_nil ?_
    refine JQ_then_n ?_
    refine J_block ?_
    refine J_loop (T := Nat) (fun k => k ≤ G.length ∧ gmB T [] 0 G = gmB T (flG (G.take k)).reverse k (G.drop k)) (fun k => [(1, .pointer (some ⟨b1, 0, none⟩)), (3, .pointer (some ⟨b3, 0, none⟩)), (4, .pointer (some ⟨b4, 0, none⟩)), (29, .slice A G.length cap), (30, .int .i64 (G.length : Nat)), (31, .int .i64 (k : Nat))]) (fun k => [cellB b1 [.int .i64 T, .slice A G.length cap, .slice A2 R.length cap2] 25, cellB b3 [.map (some b26)] 101, cellB b4 [.func (.func 53) #[] #[.pointer (some ⟨b1, 0, none⟩), .pointer (some ⟨b3, 0, none⟩)]] 102, setB 89 b26 (flG (G.take k)).reverse]) (fun k => G.length - k) 0 ⟨Nat.zero_le _, rfl⟩ ⟨rfl, rfl, rfl, rfl, rfl, rfl, trivial⟩ (by repeat constructor) ?_
    rintro k ⟨hk, hall⟩
    refine J_seq ?_
    refine J_reg ?_
    refine JP (rp2 rfl rfl (fun ρ hx hy w => ex_lssD rfl hx hy)) ?_
    refine JL_dec (fun h32 => ?_) (fun h32 => ?_)
    ·refine JL_nil ?_
     refine JQ_then_n ?_
     refine J_seq ?_
     refine J_yes rfl rfl ?_
     refine J_skip ?_
     refine JQ_then_n ?_
     refine J_seq ?_
     refine J_block ?_
     refine J_seq ?_
     have hlt : k < G.length := by omega
     obtain ⟨b, p, rfl, hh⟩ := hA (by intro e; subst e; simp at hlt)
     have hgw := hG2 _ (List.getElem_mem hlt)
     have hSl : (flG (G.take k)).reverse.length ≤ 2 * G.length := by rw [List.length_reverse, flG_len, List.length_take]; omega
     refine J_reg ?_
     refine JM rfl rfl rfl rfl rfl ?_
     refine JP (rp2 rfl rfl (fun ρ hx hy w => ex_indexE rfl hx hy Try.underlying22 sz_90 (by omega))) ?_
     refine JV (rv_holdagg (E := EG) rfl rfl ag_90 sz_90 (fun h => h) hh (by omega) rfl) ?_
     refine JL_op (wn0 rfl) (ow_alloc rfl rfl zv_90 rfl rfl) (fun b6 hb6 => ?_)
     refine JN rfl rfl rfl rfl rfl ?_
     refine JL_op (wn0 rfl) (ow_store (cs := [_, _, _, _]) (vs' := [_, _, _, _]) rfl rfl rfl rfl rfl sz_90 rfl (by repeat constructor) (by rfl) (by rfl)) (fun _ _ => ?_)
     refine JL_nil ?_
     refine JQ_then_n ?_
     refine J_seq ?_
     refine J_keep (l' := [(1, _), (3, _), (4, _), (5, _), (6, _), (29, _), (30, _), (31, _)]) ⟨rfl, rfl, rfl, rfl, rfl, rfl, rfl, rfl, trivial⟩ ?_
     refine J_reg ?_
     refine JV (rv_cell rfl rfl ag_102 (by repeat constructor) (by rfl)) ?_
     refine JP (rp_arrC (off' := 0) rfl rfl rfl ia_90_0 rfl) ?_
     refine JV (rv_agg (cs := [_, _]) rfl rfl ag_89 sz_89 (by repeat constructor) (by rfl)) ?_
     refine JM rfl rfl rfl rfl rfl ?_
     refine JL_op (wn0 rfl) (ow_callM (A := setB 89 b26 ((flG (G.take k)).reverse)) (ec_valE (args := #[Pv ((G[k]'hlt).1).1 ((G[k]'hlt).1).2, .int .i64 (k : Nat), .pointer (some ⟨b1, 0, none⟩), .pointer (some ⟨b3, 0, none⟩)]) rfl rfl rfl cf_53 rfl) rfl rfl rfl (fun _ => rfl) (fun _ => (by repeat constructor)) (fun w hw => take53 T ((flG (G.take k)).reverse) ((G[k]'hlt).1) k w b1 b3 b26 (cellB_get (hw.ok _ (by repeat constructor)).1 rfl) (cellB_get (hw.ok _ (by repeat constructor)).1 rfl) (hw.ok _ (by repeat constructor)).1 (hw.ne (b := b1) (b' := b26) (by repeat constructor)) (hw.ne (b := b3) (b' := b26) (by repeat constructor)) hgw.1 (by omega) (by omega) (by omega))) (fun _ _ => ?_)
     refine JL_bool (fun h40 => ?_) (fun h40 => ?_)
     ·refine JP (rp1 rfl (fun ρ hx w => ex_not rfl hx)) ?_
      refine JM rfl rfl rfl rfl rfl ?_
      refine JVg (rv_cell rfl rfl ag_102 (by repeat constructor) (by rfl)) ?_
      refine JPg (rp_arrC (off' := 2) rfl rfl rfl ia_90_1 rfl) ?_
      refine JVg (rv_agg (cs := [_, _]) rfl rfl ag_89 sz_89 (by repeat constructor) (by rfl)) ?_
      refine JPg (rp_move rfl rfl) ?_
      refine JL_op (wn_g rfl rfl rfl rfl) (ow_callM (A := setB 89 b26 ((G[k]'hlt).1 :: (flG (G.take k)).reverse)) (ec_valE (args := #[Pv ((G[k]'hlt).2).1 ((G[k]'hlt).2).2, .int .i64 (k : Nat), .pointer (some ⟨b1, 0, none⟩), .pointer (some ⟨b3, 0, none⟩)]) rfl rfl rfl cf_53 rfl) rfl rfl rfl (fun _ => rfl) (fun _ => (by repeat constructor)) (fun w hw => take53 T ((G[k]'hlt).1 :: (flG (G.take k)).reverse) ((G[k]'hlt).2) k w b1 b3 b26 (cellB_get (hw.ok _ (by repeat constructor)).1 rfl) (cellB_get (hw.ok _ (by repeat constructor)).1 rfl) (hw.ok _ (by repeat constructor)).1 (hw.ne (b := b1) (b' := b26) (by repeat constructor)) (hw.ne (b := b3) (b' := b26) (by repeat constructor)) hgw.2 (by rw [List.length_cons]; omega) (by omega) (by omega))) (fun _ _ => ?_)
      refine JL_bool (fun h47 => ?_) (fun h47 => ?_)
      ·refine JPg (rp1 rfl (fun ρ hx w => ex_not rfl hx)) ?_
       refine JP (rp_pickF rfl rfl rfl) ?_
       refine JL_nil ?_
       refine JQ_then_n ?_
       refine J_no rfl rfl ?_
       refine J_skip ?_
       refine JQ_block_n ?_
       refine JQ_then_n ?_
       refine J_keep (l' := [(1, _), (3, _), (4, _), (29, _), (30, _), (31, _)]) ⟨rfl, rfl, rfl, rfl, rfl, rfl, trivial⟩ ?_
       refine J_reg ?_
       refine JP (rp2 rfl rfl (fun ρ hx hy w => ex_add rfl hx hy (by omega))) ?_
       refine JM rfl rfl rfl rfl rfl ?_
       refine JL_nil ?_
       exact JQ_round (k + 1) ⟨by omega, by rw [hall, gmB_step hlt, h40, h47, flG_snoc G k hlt]; rfl⟩ (by omega) ⟨rfl, rfl, rfl, rfl, rfl, (congrArg some (by go_num)), trivial⟩ (by (try dsimp only); rw [flG_snoc G k hlt]; repeat (first | exact Pk.nil _ | (refine Pk.pick (by repeat (first | exact Rm.here _ | apply Rm.there)) ?_)))
      ·refine JPg (rp1 rfl (fun ρ hx w => ex_not rfl hx)) ?_
       refine JP (rp_pickF rfl rfl rfl) ?_
       refine JL_nil ?_
       refine JQ_then_n ?_
       refine J_yes rfl rfl ?_
       refine J_seq ?_
       refine J_keep (l' := []) trivial ?_
       refine J_reg ?_
       refine JN rfl rfl rfl rfl rfl ?_
       refine JL_nil ?_
       refine JQ_then_n ?_
       refine J_ret ?_
       refine JQ_block_r ?_
       refine JQ_then_r ?_
       refine JQ_then_r ?_
       refine JQ_block_r ?_
       refine JQ_then_r ?_
       refine JR_one rfl (rr_tmp rfl) ?_
       intro w' hw
       have e : cbB T G R = false := by unfold cbB; rw [h9, h15, decide_eq_true hRT, hall, gmB_step hlt, h40, h47]; rfl
       rw [e]
       exact ⟨rfl, hw.bel⟩
     ·refine JP (rp1 rfl (fun ρ hx w => ex_not rfl hx)) ?_
      refine JM rfl rfl rfl rfl rfl ?_
      refine JF ?_
      refine JF ?_
      refine JF ?_
      refine JF ?_
      refine JF ?_
      refine JF ?_
      refine JP (rp_pickT rfl rfl rfl) ?_
      refine JL_nil ?_
      refine JQ_then_n ?_
      refine J_yes rfl rfl ?_
      refine J_seq ?_
      refine J_keep (l' := []) trivial ?_
      refine J_reg ?_
      refine JN rfl rfl rfl rfl rfl ?_
      refine JL_nil ?_
      refine JQ_then_n ?_
      refine J_ret ?_
      refine JQ_block_r ?_
      refine JQ_then_r ?_
      refine JQ_then_r ?_
      refine JQ_block_r ?_
      refine JQ_then_r ?_
      refine JR_one rfl (rr_tmp rfl) ?_
      intro w' hw
      have e : cbB T G R = false := by unfold cbB; rw [h9, h15, decide_eq_true hRT, hall, gmB_step hlt, h40]; rfl
      rw [e]
      exact ⟨rfl, hw.bel⟩
    ·refine JL_nil ?_
     refine JQ_then_n ?_
     refine J_seq ?_
     refine J_no rfl rfl ?_
     refine J_exit ?_
     refine JQ_then_x ?_
     refine JQ_then_x ?_
     refine JQ_block_y rfl ?_
     refine JQ_then_n ?_
     refine J_seq ?_
     refine J_keep (l' := [(1, _), (4, _)]) ⟨rfl, rfl, trivial⟩ ?_
     refine J_reg ?_
     refine JP (rp_fieldC (off' := 2) rfl rfl fa_25_2 rfl) ?_
     refine JV (rv_cell rfl rfl ag_23 (by repeat constructor) (by rfl)) ?_
     refine JP (rp_func rfl rfl rfl) ?_
     refine JL_op (wn0 rfl) (ow_callM (A := setB 89 b26 (flG (G.take k)).reverse) (ec_fn rfl rfl cf_54) rfl rfl rfl (fun _ => rfl) (fun _ => (by repeat constructor)) (fun w hw => contains54 T (flG (G.take k)).reverse R w b1 b3 b4 b26 G.length cap cap2 A2 A (cellB_get (hw.ok _ (by repeat constructor)).1 rfl) (cellB_get (hw.ok _ (by repeat constructor)).1 rfl) (cellB_get (hw.ok _ (by repeat constructor)).1 rfl) (cellB_get (hw.ok _ (by repeat constructor)).1 rfl) (hw.ne (b := b1) (b' := b26) (by repeat constructor)) (hw.ne (b := b3) (b' := b26) (by repeat constructor)) (hw.ne (b := b4) (b' := b26) (by repeat constructor)) (by omega) (by omega) (hw.ok _ (by repeat constructor)).1 (hR.up EP hw.bel) (fun hn b o e he => by have := hR.lt EP (by decide) hn e; subst he; exact absurd (Nat.lt_of_lt_of_le this hb26) (Nat.lt_irrefl _)) hR2 (by rw [List.length_reverse, flG_len, List.length_take]; omega))) (fun _ _ => ?_)
     refine JP (rp1 rfl (fun ρ hx w => ex_not rfl hx)) ?_
     refine JN rfl rfl rfl rfl rfl ?_
     refine JL_nil ?_
     refine JQ_then_n ?_
     refine J_ret ?_
     refine JR_one rfl (rr_tmp rfl) ?_
     intro w' hw
     obtain rfl : k = G.length := by omega
     have e : cbB T G R = allB T G.length (flG G).reverse R := by unfold cbB; rw [h9, h15, decide_eq_true hRT, hall, List.take_length, List.drop_length]; rfl
     rw [List.take_length] at *
     rw [e]
     exact ⟨by cases allB T G.length (flG G).reverse R <;> rfl, hw.bel⟩
  ·refine JPg (rp1 rfl (fun ρ hx w => ex_not rfl hx)) ?_
   refine JP (rp_pickF rfl rfl rfl) ?_
   refine JM rfl rfl rfl rfl rfl ?_
   refine JF ?_
   refine JF ?_
   refine JF ?_
   refine JF ?_
   refine JF ?_
   refine JF ?_
   refine JP (rp_pickT rfl rfl rfl) ?_
   refine JL_nil ?_
   refine JQ_then_n ?_
   refine J_yes rfl rfl ?_
   refine J_seq ?_
   refine J_keep (l' := []) trivial ?_
   refine J_reg ?_
   refine JN rfl rfl rfl rfl rfl ?_
   refine JL_nil ?_
   refine JQ_then_n ?_
   refine J_ret ?_
   refine JQ_then_r ?_
   refine JR_one rfl (rr_tmp rfl) ?_
   intro w' hw
   have e : cbB T G R = false := by unfold cbB; rw [h9, h15]; rfl
   rw [e]
   exact ⟨rfl, hw.bel⟩
 ·refine JP (rp1 rfl (fun ρ hx w => ex_not rfl hx)) ?_
  refine JM rfl rfl rfl rfl rfl ?_
  refine JF ?_
  refine JF ?_
  refine JF ?_
  refine JF ?_
  refine JF ?_
  refine JP (rp_pickT rfl rfl rfl) ?_
  refine JM rfl rfl rfl rfl rfl ?_
  refine JF ?_
  refine JF ?_
  refine JF ?_
  refine JF ?_
  refine JF ?_
  refine JF ?_
  refine JP (rp_pickT rfl rfl rfl) ?_
  refine JL_nil ?_
  refine JQ_then_n ?_
  refine J_yes rfl rfl ?_
  refine J_seq ?_
  refine J_keep (l' := []) trivial ?_
  refine J_reg ?_
  refine JN rfl rfl rfl rfl rfl ?_
  refine JL_nil ?_
  refine JQ_then_n ?_
  refine J_ret ?_
  refine JQ_then_r ?_
  refine JR_one rfl (rr_tmp rfl) ?_
  intro w' hw
  have e : cbB T G R = false := by unfold cbB; rw [h9]; rfl
  rw [e]
  exact ⟨rfl, hw.bel⟩
end Go.Proofs.Ytlfbbofcnonhdaa
