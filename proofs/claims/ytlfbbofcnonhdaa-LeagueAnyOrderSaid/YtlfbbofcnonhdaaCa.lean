/- The document on brackets: count, from, CheckBracket, SameBracket, Page. -/
import Derived.Test.YtlfbbofcnonhdaaBp
import Derived.Test.YtlfbbofcnonhdaaEb
namespace Go.Proofs.Ytlfbbofcnonhdaa
open Go Go.RowKit Go.Proofs

section
open Go
variable {P : Program} {n : Nat} {B : Bs} {l : Sl} {H : List It} {o : Oper}
/-- A part of an element is read. -/
theorem rv_holdpart {α : Type} {enc : α → List Value} {k m i : Nat} (E : Enc k enc) {t : TypeId} {x : Operand} {b p j : Nat} {L : List α} {cs : List Value} (ho : o.op = .load t x) (hx : evl l x = some (.pointer (some ⟨b, p + j * k + i, none⟩))) (hagg : ∀ w, (isAgg t).run P w = .ok true w) (hsz : ∀ w, (sizeOf t).run P w = .ok m w) (hm : ¬ B.m b) (hc : HoldL k enc B.w b p L) (hj : j < L.length) (hi : i + m ≤ k) (hv : ((enc (L[j]'hj)).drop i).take m = cs) : RV P n B l H o (.agg cs.toArray) := by
  have hl : cs.length = m := by rw [← hv, List.length_take, List.length_drop, E.len]; omega
  refine rv_oldagg ho hx hagg (by rw [hl]; exact hsz) hm (fun q v hq => ?_)
  have h := (List.getElem?_eq_some_iff.1 hq).1
  rw [← hv, List.getElem?_take_of_lt (by omega), List.getElem?_drop] at hq
  rw [Nat.add_assoc, hc j hj (i + q) (by omega)]; exact hq
end
def cntL (l : List (Int × Int)) (x : Int × Int) : Nat := (l.filter fun y => decide (y = x)).length
theorem cntL_snoc (l : List (Int × Int)) (y x : Int × Int) : cntL (l ++ [y]) x = cntL l x + if y = x then 1 else 0 := by
  unfold cntL
  rw [List.filter_append, List.length_append]
  by_cases h : y = x
  · rw [if_pos h]; simp [h]
  · rw [if_neg h]; simp [h]
theorem cntL_le (l : List (Int × Int)) (x : Int × Int) : cntL l x ≤ l.length := List.length_filter_le _ _
def cntB (G : List Gm) (R : List (Int × Int)) (x : Int × Int) : Nat := cntL (flG G) x + cntL R x
theorem flG_succ (G : List Gm) (k : Nat) (h : k < G.length) : flG (G.take (k + 1)) = flG (G.take k) ++ [(G[k]'h).1] ++ [(G[k]'h).2] := by
  rw [List.take_succ_eq_append_getElem h]
  unfold flG
  rw [List.flatMap_append]; simp
/-- Is a place one of a bracket? -/
def fmB (T : Int) (G : List Gm) (R : List (Int × Int)) (x : Int × Int) (n : Int) : Bool := ((decide (x.1 = 0) && decide (0 ≤ x.2 ∧ x.2 ≤ T - 1)) || (decide (1 ≤ x.1 ∧ x.1 ≤ 2) && decide (0 ≤ x.2 ∧ x.2 ≤ n - 1))) && decide (cntB G R x = 1)
def gmC (T : Int) (G : List Gm) (R : List (Int × Int)) (i : Nat) : Bool := fmB T G R (G.getD i ((0, 0), (0, 0))).1 (i : Nat) && fmB T G R (G.getD i ((0, 0), (0, 0))).2 (i : Nat)
def plC (T : Int) (G : List Gm) (R : List (Int × Int)) (i : Nat) : Bool := fmB T G R (R.getD i (0, 0)) (G.length : Nat)
/-- Is a bracket valid, by the document? -/
def ckB (T : Int) (G : List Gm) (R : List (Int × Int)) : Bool := decide (2 ≤ T ∧ T ≤ 16) && decide (1 ≤ (G.length : Int) ∧ (G.length : Int) ≤ 64) && decide ((R.length : Int) = T) && (List.range G.length).all (gmC T G R) && (List.range R.length).all (plC T G R)
theorem all_succ (p : Nat → Bool) (k : Nat) : (List.range (k + 1)).all p = ((List.range k).all p && p k) := by rw [List.range_succ, List.all_append]; simp
theorem all_bad (p : Nat → Bool) {k n : Nat} (h : k < n) (hp : p k = false) : (List.range n).all p = false := by
  rw [← Bool.not_eq_true]
  intro ha
  rw [List.all_eq_true.1 ha k (List.mem_range.2 h)] at hp
  cases hp
set_option maxRecDepth 100000 in
set_option maxHeartbeats 4000000 in
theorem count83 (T : Int) (G : List Gm) (R : List (Int × Int)) (x : Int × Int) (w : World) (A A2 : Option Addr) (c c2 : Nat) (hG : Arr 4 eG w (.slice A G.length c) G) (hR : Arr 2 eP w (.slice A2 R.length c2) R) (hGl : G.length ≤ 100) (hRl : R.length ≤ 100) : Calls Try.prog 83 #[Brv T A G.length c A2 R.length c2, Pv x.1 x.2] w (Back (.int .i64 (cntB G R x : Nat)) w) := by
 refine J_enter (fun _ => False) (vs := [Brv T A G.length c A2 R.length c2, Pv x.1 x.2]) (k := 46) (l := [(0, Brv T A G.length c A2 R.length c2), (1, Pv x.1 x.2)]) Try.func83 rfl rfl Try.ntmps83 rfl rfl (Wd.start _) ?_
 refine J_seq ?_
 refine J_reg ?_
 refine JL_op (wn0 rfl) (ow_box (vs := [_, _, _]) rfl rfl rfl rfl rfl) (fun b2 hb2 => ?_)
 refine JL_op (wn0 rfl) (ow_box (vs := [_, _]) rfl rfl rfl rfl rfl) (fun b3 hb3 => ?_)
 refine JN rfl rfl rfl rfl rfl ?_
 refine JL_nil ?_
 refine JQ_then_n ?_
 refine J_seq ?_
 refine J_reg ?_
 refine JN rfl rfl rfl rfl rfl ?_
 refine JL_nil ?_
 refine JQ_then_n ?_
 refine J_seq ?_
 refine J_seq ?_
 refine J_reg ?_
 refine JN rfl rfl rfl rfl rfl ?_
 refine JL_nil ?_
 refine JQ_then_n ?_
 refine J_block ?_
 refine J_loop (T := Nat) (fun i => i ≤ G.length) (fun i => [(2, .pointer (some ⟨b2, 0, none⟩)), (3, .pointer (some ⟨b3, 0, none⟩)), (5, .int .i64 (cntL (flG (G.take i)) x : Nat)), (6, .int .i64 (i : Nat))]) (fun i => [cellB b2 [.int .i64 T, .slice A G.length c, .slice A2 R.length c2] 25, cellB b3 [.int .i64 x.1, .int .i64 x.2] 89]) (fun i => G.length - i) 0 (Nat.zero_le _) ⟨rfl, rfl, rfl, rfl, trivial⟩ (by repeat constructor) ?_
 rintro i hi
 have hcb := cntL_le (flG (G.take i)) x
 have hfl : (flG (G.take i)).length ≤ 200 := by rw [flG_len, List.length_take]; omega
 refine J_seq ?_
 refine J_seq ?_
 refine J_reg ?_
 refine JM rfl rfl rfl rfl rfl ?_
 refine JP (rp_fieldC (off' := 1) rfl rfl fa_25_1 rfl) ?_
 refine JV (rv_cell rfl rfl ag_22 (by repeat constructor) (by rfl)) ?_
 refine JP (rp1 rfl (fun ρ hx w => ex_len (A := _) (c := _) rfl Try.underlying22 hx)) ?_
 refine JP (rp2 rfl rfl (fun ρ hx hy w => ex_lssD rfl hx hy)) ?_
 refine JL_dec (fun h13 => ?_) (fun h13 => ?_)
 ·refine JL_nil ?_
  refine JQ_then_n ?_
  refine J_yes rfl rfl ?_
  refine J_skip ?_
  refine JQ_then_n ?_
  refine J_seq ?_
  refine J_block ?_
  refine J_seq ?_
  refine J_keep (l' := [(2, _), (3, _), (5, _), (6, _)]) ⟨rfl, rfl, rfl, rfl, trivial⟩ ?_
  refine J_reg ?_
  refine JN rfl rfl rfl rfl rfl ?_
  refine JL_nil ?_
  refine JQ_then_n ?_
  refine J_block ?_
  obtain ⟨Ag, cg, eg, -, -, hA⟩ := id hG
  injection eg with e1 e2 e3
  subst e1 e3
  have hlt : i < G.length := by omega
  obtain ⟨b, p, rfl, hh⟩ := hA (by intro e; subst e; simp at hlt)
  obtain ⟨g, hg⟩ : ∃ g, G[i]'hlt = g := ⟨_, rfl⟩
  refine J_loop (T := Nat) (fun j => j ≤ 2) (fun j => [(2, .pointer (some ⟨b2, 0, none⟩)), (3, .pointer (some ⟨b3, 0, none⟩)), (5, .int .i64 (cntL (flG (G.take i)) x + cntL ([g.1, g.2].take j) x : Nat)), (6, .int .i64 (i : Nat)), (7, .int .i64 (j : Nat))]) (fun j => [cellB b2 [.int .i64 T, .slice (some ⟨b, p, none⟩) G.length c, .slice A2 R.length c2] 25, cellB b3 [.int .i64 x.1, .int .i64 x.2] 89]) (fun j => 2 - j) 0 (Nat.zero_le _) ⟨rfl, rfl, rfl, rfl, rfl, trivial⟩ (by repeat constructor) ?_
  rintro j hj
  have hcb2 := cntL_le ([g.1, g.2].take j) x
  have hfl2 : ([g.1, g.2].take j).length ≤ 2 := by rw [List.length_take]; exact Nat.min_le_right _ _
  refine J_seq ?_
  refine J_seq ?_
  refine J_reg ?_
  refine JM rfl rfl rfl rfl rfl ?_
  refine JP (rp2 rfl rfl (fun ρ hx hy w => ex_lssD rfl hx hy)) ?_
  refine JL_dec (fun h17 => ?_) (fun h17 => ?_)
  ·refine JL_nil ?_
   refine JQ_then_n ?_
   refine J_yes rfl rfl ?_
   refine J_skip ?_
   refine JQ_then_n ?_
   refine J_seq ?_
   refine J_block ?_
   refine J_seq ?_
   obtain h0 | h0 : j = 0 ∨ j = 1 := by omega
   ·subst h0
    refine J_draw [1, 6, 7] (by kernel_rfl) ?_
    refine JAP (i := 0) rfl (rp_fieldC (off' := 1) rfl rfl fa_25_1 rfl) ?_
    refine JAL (i := 1) rfl (rv_cell rfl rfl ag_22 (by repeat constructor) (by rfl)) ?_
    refine JAP (i := 2) rfl (rp_move rfl rfl) ?_
    refine JAP (i := 3) rfl (rp_move rfl rfl) ?_
    refine JAP (i := 4) rfl (rp2 rfl rfl (fun ρ hx hy w => ex_indexI (k := i) rfl hx hy rfl Try.underlying22 sz_90 (by omega))) ?_
    refine JAP (i := 5) rfl (rp_arrE (i' := 0) rfl rfl rfl ia_90_0 rfl) ?_
    refine JAL (i := 6) rfl (rv_holdpart (j := i) (i := 0) (m := 2) (cs := [.int .i64 g.1.1, .int .i64 g.1.2]) EG rfl rfl ag_89 sz_89 (fun h => h) hh (by omega) (by omega) (by rw [hg]; rfl)) ?_
    refine JAL (i := 7) rfl (rv_agg (cs := [_, _]) rfl rfl ag_89 sz_89 (by repeat constructor) (by rfl)) ?_
    refine JAP (i := 8) rfl (rp2 rfl rfl (fun ρ hx hy w => ex_eql89 rfl hx hy)) ?_
    refine JA_dec (fun h28 => ?_) (fun h28 => ?_)
    ·refine JA_done (by kernel_rfl) ?_
     refine JQ_then_n ?_
     refine J_yes rfl rfl ?_
     refine J_keep (l' := [(2, _), (3, _), (5, _), (6, _), (7, _)]) ⟨rfl, rfl, rfl, rfl, rfl, trivial⟩ ?_
     refine J_reg ?_
     refine JM rfl rfl rfl rfl rfl ?_
     refine JP (rp2 rfl rfl (fun ρ hx hy w => ex_add rfl hx hy (by omega))) ?_
     refine JN rfl rfl rfl rfl rfl ?_
     refine JL_nil ?_
     refine JQ_block_n ?_
     refine JQ_then_n ?_
     refine J_reg ?_
     refine JM rfl rfl rfl rfl rfl ?_
     refine JP (rp2 rfl rfl (fun ρ hx hy w => ex_add rfl hx hy (by omega))) ?_
     refine JN rfl rfl rfl rfl rfl ?_
     refine JL_nil ?_
     have e1 : cntL ([g.1, g.2].take 1) x = cntL ([g.1, g.2].take 0) x + 1 := by rw [show [g.1, g.2].take 1 = [g.1, g.2].take 0 ++ [g.1] from rfl, cntL_snoc, if_pos (Prod.ext h28.1 h28.2)]
     exact JQ_round 1 (by omega) (by omega) ⟨rfl, rfl, (by rw [e1]; rfl), rfl, rfl, trivial⟩ (by repeat constructor)
    ·refine JA_done (by kernel_rfl) ?_
     refine JQ_then_n ?_
     refine J_no rfl rfl ?_
     refine J_skip ?_
     refine JQ_block_n ?_
     refine JQ_then_n ?_
     refine J_keep (l' := [(2, _), (3, _), (5, _), (6, _), (7, _)]) ⟨rfl, rfl, rfl, rfl, rfl, trivial⟩ ?_
     refine J_reg ?_
     refine JM rfl rfl rfl rfl rfl ?_
     refine JP (rp2 rfl rfl (fun ρ hx hy w => ex_add rfl hx hy (by omega))) ?_
     refine JN rfl rfl rfl rfl rfl ?_
     refine JL_nil ?_
     have e1 : cntL ([g.1, g.2].take 1) x = cntL ([g.1, g.2].take 0) x + 0 := by rw [show [g.1, g.2].take 1 = [g.1, g.2].take 0 ++ [g.1] from rfl, cntL_snoc, if_neg (fun e => h28 ⟨congrArg Prod.fst e, congrArg Prod.snd e⟩)]
     exact JQ_round 1 (by omega) (by omega) ⟨rfl, rfl, (by rw [e1]; rfl), rfl, rfl, trivial⟩ (by repeat constructor)
   ·subst h0
    refine J_draw [1, 6, 7] (by kernel_rfl) ?_
    refine JAP (i := 0) rfl (rp_fieldC (off' := 1) rfl rfl fa_25_1 rfl) ?_
    refine JAL (i := 1) rfl (rv_cell rfl rfl ag_22 (by repeat constructor) (by rfl)) ?_
    refine JAP (i := 2) rfl (rp_move rfl rfl) ?_
    refine JAP (i := 3) rfl (rp_move rfl rfl) ?_
    refine JAP (i := 4) rfl (rp2 rfl rfl (fun ρ hx hy w => ex_indexI (k := i) rfl hx hy rfl Try.underlying22 sz_90 (by omega))) ?_
    refine JAP (i := 5) rfl (rp_arrE (i' := 2) rfl rfl rfl ia_90_1 rfl) ?_
    refine JAL (i := 6) rfl (rv_holdpart (j := i) (i := 2) (m := 2) (cs := [.int .i64 g.2.1, .int .i64 g.2.2]) EG rfl rfl ag_89 sz_89 (fun h => h) hh (by omega) (by omega) (by rw [hg]; rfl)) ?_
    refine JAL (i := 7) rfl (rv_agg (cs := [_, _]) rfl rfl ag_89 sz_89 (by repeat constructor) (by rfl)) ?_
    refine JAP (i := 8) rfl (rp2 rfl rfl (fun ρ hx hy w => ex_eql89 rfl hx hy)) ?_
    refine JA_dec (fun h28 => ?_) (fun h28 => ?_)
    ·refine JA_done (by kernel_rfl) ?_
     refine JQ_then_n ?_
     refine J_yes rfl rfl ?_
     refine J_keep (l' := [(2, _), (3, _), (5, _), (6, _), (7, _)]) ⟨rfl, rfl, rfl, rfl, rfl, trivial⟩ ?_
     refine J_reg ?_
     refine JM rfl rfl rfl rfl rfl ?_
     refine JP (rp2 rfl rfl (fun ρ hx hy w => ex_add rfl hx hy (by omega))) ?_
     refine JN rfl rfl rfl rfl rfl ?_
     refine JL_nil ?_
     refine JQ_block_n ?_
     refine JQ_then_n ?_
     refine J_reg ?_
     refine JM rfl rfl rfl rfl rfl ?_
     refine JP (rp2 rfl rfl (fun ρ hx hy w => ex_add rfl hx hy (by omega))) ?_
     refine JN rfl rfl rfl rfl rfl ?_
     refine JL_nil ?_
     have e1 : cntL ([g.1, g.2].take 2) x = cntL ([g.1, g.2].take 1) x + 1 := by rw [show [g.1, g.2].take 2 = [g.1, g.2].take 1 ++ [g.2] from rfl, cntL_snoc, if_pos (Prod.ext h28.1 h28.2)]
     exact JQ_round 2 (by omega) (by omega) ⟨rfl, rfl, (by rw [e1]; rfl), rfl, rfl, trivial⟩ (by repeat constructor)
    ·refine JA_done (by kernel_rfl) ?_
     refine JQ_then_n ?_
     refine J_no rfl rfl ?_
     refine J_skip ?_
     refine JQ_block_n ?_
     refine JQ_then_n ?_
     refine J_keep (l' := [(2, _), (3, _), (5, _), (6, _), (7, _)]) ⟨rfl, rfl, rfl, rfl, rfl, trivial⟩ ?_
     refine J_reg ?_
     refine JM rfl rfl rfl rfl rfl ?_
     refine JP (rp2 rfl rfl (fun ρ hx hy w => ex_add rfl hx hy (by omega))) ?_
     refine JN rfl rfl rfl rfl rfl ?_
     refine JL_nil ?_
     have e1 : cntL ([g.1, g.2].take 2) x = cntL ([g.1, g.2].take 1) x + 0 := by rw [show [g.1, g.2].take 2 = [g.1, g.2].take 1 ++ [g.2] from rfl, cntL_snoc, if_neg (fun e => h28 ⟨congrArg Prod.fst e, congrArg Prod.snd e⟩)]
     exact JQ_round 2 (by omega) (by omega) ⟨rfl, rfl, (by rw [e1]; rfl), rfl, rfl, trivial⟩ (by repeat constructor)
  ·refine JL_nil ?_
   refine JQ_then_n ?_
   refine J_no rfl rfl ?_
   refine J_exit ?_
   refine JQ_then_x ?_
   refine JQ_then_x ?_
   refine JQ_block_y rfl ?_
   refine JQ_block_n ?_
   refine JQ_then_n ?_
   refine J_reg ?_
   refine JM rfl rfl rfl rfl rfl ?_
   refine JP (rp2 rfl rfl (fun ρ hx hy w => ex_add rfl hx hy (by omega))) ?_
   refine JN rfl rfl rfl rfl rfl ?_
   refine JL_nil ?_
   obtain rfl : j = 2 := by omega
   have e1 : cntL (flG (G.take (i + 1))) x = cntL (flG (G.take i)) x + cntL ([g.1, g.2].take 2) x := by rw [flG_succ _ _ hlt, hg, cntL_snoc, cntL_snoc]; show _ = _ + cntL [g.1, g.2] x; rw [show [g.1, g.2] = ([] ++ [g.1]) ++ [g.2] from rfl, cntL_snoc, cntL_snoc]; show _ = _ + (0 + _ + _); omega
   exact JQ_round (i + 1) (by omega) (by omega) ⟨rfl, rfl, (by rw [e1]; rfl), (congrArg some (by go_num)), trivial⟩ (by repeat constructor)
 ·refine JL_nil ?_
  refine JQ_then_n ?_
  refine J_no rfl rfl ?_
  refine J_exit ?_
  refine JQ_then_x ?_
  refine JQ_then_x ?_
  refine JQ_block_y rfl ?_
  refine JQ_then_n ?_
  refine J_seq ?_
  refine J_seq ?_
  refine J_keep (l' := [(2, _), (3, _), (5, _)]) ⟨rfl, rfl, rfl, trivial⟩ ?_
  refine J_reg ?_
  refine JN rfl rfl rfl rfl rfl ?_
  refine JL_nil ?_
  refine JQ_then_n ?_
  refine J_block ?_
  obtain rfl : i = G.length := by omega
  rw [List.take_length] at hcb hfl ⊢
  refine J_loop (T := Nat) (fun k => k ≤ R.length) (fun k => [(2, .pointer (some ⟨b2, 0, none⟩)), (3, .pointer (some ⟨b3, 0, none⟩)), (5, .int .i64 (cntL (flG G) x + cntL (R.take k) x : Nat)), (8, .int .i64 (k : Nat))]) (fun k => [cellB b2 [.int .i64 T, .slice A G.length c, .slice A2 R.length c2] 25, cellB b3 [.int .i64 x.1, .int .i64 x.2] 89]) (fun k => R.length - k) 0 (Nat.zero_le _) ⟨rfl, rfl, rfl, rfl, trivial⟩ (by repeat constructor) ?_
  rintro k hk
  have hcb2 := cntL_le (R.take k) x
  have hfl2 : (R.take k).length ≤ 100 := by rw [List.length_take]; omega
  refine J_seq ?_
  refine J_seq ?_
  refine J_reg ?_
  refine JM rfl rfl rfl rfl rfl ?_
  refine JP (rp_fieldC (off' := 2) rfl rfl fa_25_2 rfl) ?_
  refine JV (rv_cell rfl rfl ag_23 (by repeat constructor) (by rfl)) ?_
  refine JP (rp1 rfl (fun ρ hx w => ex_len (A := _) (c := _) rfl Try.underlying23 hx)) ?_
  refine JP (rp2 rfl rfl (fun ρ hx hy w => ex_lssD rfl hx hy)) ?_
  refine JL_dec (fun h35 => ?_) (fun h35 => ?_)
  ·refine JL_nil ?_
   refine JQ_then_n ?_
   refine J_yes rfl rfl ?_
   refine J_skip ?_
   refine JQ_then_n ?_
   refine J_seq ?_
   refine J_block ?_
   refine J_seq ?_
   obtain ⟨Ag, cg, eg, -, -, hA⟩ := id hR
   injection eg with e1 e2 e3
   subst e1 e3
   have hlt2 : k < R.length := by omega
   obtain ⟨b, p, rfl, hh⟩ := hA (by intro e; subst e; simp at hlt2)
   obtain ⟨y, hy⟩ : ∃ y, R[k]'hlt2 = y := ⟨_, rfl⟩
   refine J_keep (l' := [(2, _), (3, _), (5, _), (8, _)]) ⟨rfl, rfl, rfl, rfl, trivial⟩ ?_
   refine J_draw [1, 4, 5] (by kernel_rfl) ?_
   refine JAP (i := 0) rfl (rp_fieldC (off' := 2) rfl rfl fa_25_2 rfl) ?_
   refine JAL (i := 1) rfl (rv_cell rfl rfl ag_23 (by repeat constructor) (by rfl)) ?_
   refine JAP (i := 2) rfl (rp_move rfl rfl) ?_
   refine JAP (i := 3) rfl (rp2 rfl rfl (fun ρ hx hy w => ex_indexI (k := k) rfl hx hy rfl Try.underlying23 sz_89 (by omega))) ?_
   refine JAL (i := 4) rfl (rv_holdagg (j := k) (cs := [.int .i64 y.1, .int .i64 y.2]) EP rfl rfl ag_89 sz_89 (fun h => h) hh (by omega) (by rw [hy]; rfl)) ?_
   refine JAL (i := 5) rfl (rv_agg (cs := [_, _]) rfl rfl ag_89 sz_89 (by repeat constructor) (by rfl)) ?_
   refine JAP (i := 6) rfl (rp2 rfl rfl (fun ρ hx hy w => ex_eql89 rfl hx hy)) ?_
   refine JA_dec (fun h44 => ?_) (fun h44 => ?_)
   ·refine JA_done (by kernel_rfl) ?_
    refine JQ_then_n ?_
    refine J_yes rfl rfl ?_
    refine J_keep (l' := [(2, _), (3, _), (5, _), (8, _)]) ⟨rfl, rfl, rfl, rfl, trivial⟩ ?_
    refine J_reg ?_
    refine JM rfl rfl rfl rfl rfl ?_
    refine JP (rp2 rfl rfl (fun ρ hx hy w => ex_add rfl hx hy (by omega))) ?_
    refine JN rfl rfl rfl rfl rfl ?_
    refine JL_nil ?_
    refine JQ_block_n ?_
    refine JQ_then_n ?_
    refine J_reg ?_
    refine JM rfl rfl rfl rfl rfl ?_
    refine JP (rp2 rfl rfl (fun ρ hx hy w => ex_add rfl hx hy (by omega))) ?_
    refine JN rfl rfl rfl rfl rfl ?_
    refine JL_nil ?_
    have e1 : cntL (R.take (k + 1)) x = cntL (R.take k) x + 1 := by rw [List.take_succ_eq_append_getElem hlt2, hy, cntL_snoc, if_pos (Prod.ext h44.1 h44.2)]
    exact JQ_round (k + 1) (by omega) (by omega) ⟨rfl, rfl, (by rw [e1]; rfl), (congrArg some (by go_num)), trivial⟩ (by repeat constructor)
   ·refine JA_done (by kernel_rfl) ?_
    refine JQ_then_n ?_
    refine J_no rfl rfl ?_
    refine J_skip ?_
    refine JQ_block_n ?_
    refine JQ_then_n ?_
    refine J_keep (l' := [(2, _), (3, _), (5, _), (8, _)]) ⟨rfl, rfl, rfl, rfl, trivial⟩ ?_
    refine J_reg ?_
    refine JM rfl rfl rfl rfl rfl ?_
    refine JP (rp2 rfl rfl (fun ρ hx hy w => ex_add rfl hx hy (by omega))) ?_
    refine JN rfl rfl rfl rfl rfl ?_
    refine JL_nil ?_
    have e1 : cntL (R.take (k + 1)) x = cntL (R.take k) x + 0 := by rw [List.take_succ_eq_append_getElem hlt2, hy, cntL_snoc, if_neg (fun e => h44 ⟨congrArg Prod.fst e, congrArg Prod.snd e⟩)]
    exact JQ_round (k + 1) (by omega) (by omega) ⟨rfl, rfl, (by rw [e1]; rfl), (congrArg some (by go_num)), trivial⟩ (by repeat constructor)
  ·refine JL_nil ?_
   refine JQ_then_n ?_
   refine J_no rfl rfl ?_
   refine J_exit ?_
   refine JQ_then_x ?_
   refine JQ_then_x ?_
   refine JQ_block_y rfl ?_
   refine JQ_then_n ?_
   refine J_seq ?_
   refine J_keep (l' := [(5, _)]) ⟨rfl, trivial⟩ ?_
   refine J_reg ?_
   refine JM rfl rfl rfl rfl rfl ?_
   refine JN rfl rfl rfl rfl rfl ?_
   refine JL_nil ?_
   refine JQ_then_n ?_
   refine J_ret ?_
   refine JR_one rfl (rr_tmp rfl) ?_
   intro w' hw
   obtain rfl : k = R.length := by omega
   rw [List.take_length]
   exact ⟨rfl, hw.bel⟩
set_option maxRecDepth 100000 in
set_option maxHeartbeats 4000000 in
theorem from56 (T : Int) (G : List Gm) (R : List (Int × Int)) (x : Int × Int) (n : Int) (w : World) (A A2 : Option Addr) (c c2 : Nat) (hG : Arr 4 eG w (.slice A G.length c) G) (hR : Arr 2 eP w (.slice A2 R.length c2) R) (hGl : G.length ≤ 100) (hRl : R.length ≤ 100) (hT : -1000 ≤ T ∧ T ≤ 1000) (hn : -1000 ≤ n ∧ n ≤ 1000) : Calls Try.prog 56 #[Brv T A G.length c A2 R.length c2, Pv x.1 x.2, .int .i64 n] w (Back (.bool (fmB T G R x n)) w) := by
 refine J_enter (fun _ => False) (vs := [Brv T A G.length c A2 R.length c2, Pv x.1 x.2, .int .i64 n]) (k := 37) (l := [(0, Brv T A G.length c A2 R.length c2), (1, Pv x.1 x.2), (2, .int .i64 n)]) Try.func56 rfl rfl Try.ntmps56 rfl rfl (Wd.start _) ?_
 refine J_seq ?_
 refine J_reg ?_
 refine JL_op (wn0 rfl) (ow_box (vs := [_, _, _]) rfl rfl rfl rfl rfl) (fun b3 hb3 => ?_)
 refine JL_op (wn0 rfl) (ow_box (vs := [_, _]) rfl rfl rfl rfl rfl) (fun b4 hb4 => ?_)
 refine JN rfl rfl rfl rfl rfl ?_
 refine JL_nil ?_
 refine JQ_then_n ?_
 refine J_seq ?_
 refine J_reg ?_
 refine JP (rp_fieldC (off' := 0) rfl rfl fa_89_0 rfl) ?_
 refine JV (rv_cell rfl rfl ag_3 (by repeat constructor) (by rfl)) ?_
 refine JP (rp2 rfl rfl (fun ρ hx hy w => ex_eqlD rfl hx hy)) ?_
 refine JL_dec (fun h11 => ?_) (fun h11 => ?_)
 ·refine JM rfl rfl rfl rfl rfl ?_
  refine JPg (rp_fieldC (off' := 1) rfl rfl fa_89_1 rfl) ?_
  refine JVg (rv_cell rfl rfl ag_3 (by repeat constructor) (by rfl)) ?_
  refine JPg (rp_fieldC (off' := 0) rfl rfl fa_25_0 rfl) ?_
  refine JVg (rv_cell rfl rfl ag_3 (by repeat constructor) (by rfl)) ?_
  refine JPg (rp2 rfl rfl (fun ρ hx hy w => ex_sub rfl hx hy (by omega))) ?_
  refine JL_op (wn_g rfl rfl rfl rfl) (ow_callP (ec_fn rfl rfl cf_52) rfl rfl (fun w hw => in52 x.2 0 (T - 1) w)) (fun _ _ => ?_)
  refine JL_bool (fun h18 => ?_) (fun h18 => ?_)
  ·refine JP (rp_pickT rfl rfl rfl) ?_
   refine JN rfl rfl rfl rfl rfl ?_
   refine JL_nil ?_
   refine JQ_then_n ?_
   refine J_seq ?_
   refine J_keep (l' := [(2, _), (3, _), (4, _), (7, _)]) ⟨rfl, rfl, rfl, rfl, trivial⟩ ?_
   refine J_reg ?_
   refine JP (rp_fieldC (off' := 0) rfl rfl fa_89_0 rfl) ?_
   refine JV (rv_cell rfl rfl ag_3 (by repeat constructor) (by rfl)) ?_
   refine JL_op (wn0 rfl) (ow_callP (ec_fn rfl rfl cf_52) rfl rfl (fun w hw => in52 x.1 1 2 w)) (fun _ _ => ?_)
   refine JL_bool (fun h22 => ?_) (fun h22 => ?_)
   ·refine JM rfl rfl rfl rfl rfl ?_
    refine JPg (rp_fieldC (off' := 1) rfl rfl fa_89_1 rfl) ?_
    refine JVg (rv_cell rfl rfl ag_3 (by repeat constructor) (by rfl)) ?_
    refine JPg (rp_move rfl rfl) ?_
    refine JPg (rp2 rfl rfl (fun ρ hx hy w => ex_sub rfl hx hy (by omega))) ?_
    refine JL_op (wn_g rfl rfl rfl rfl) (ow_callP (ec_fn rfl rfl cf_52) rfl rfl (fun w hw => in52 x.2 0 (n - 1) w)) (fun _ _ => ?_)
    refine JL_bool (fun h28 => ?_) (fun h28 => ?_)
    ·refine JP (rp_pickT rfl rfl rfl) ?_
     refine JN rfl rfl rfl rfl rfl ?_
     refine JL_nil ?_
     refine JQ_then_n ?_
     refine J_seq ?_
     refine J_keep (l' := [(3, _), (4, _), (7, _), (8, _)]) ⟨rfl, rfl, rfl, rfl, trivial⟩ ?_
     refine J_reg ?_
     refine JM rfl rfl rfl rfl rfl ?_
     refine JM rfl rfl rfl rfl rfl ?_
     refine JF ?_
     refine JP (rp_pickT rfl rfl rfl) ?_
     refine JM rfl rfl rfl rfl rfl ?_
     refine JVg (rv_agg (cs := [_, _, _]) rfl rfl ag_25 sz_25 (by repeat constructor) (by rfl)) ?_
     refine JVg (rv_agg (cs := [_, _]) rfl rfl ag_89 sz_89 (by repeat constructor) (by rfl)) ?_
     refine JL_op (wn_g rfl rfl rfl rfl) (ow_callB (ec_fn rfl rfl cf_83) rfl rfl (fun w hw => count83 T G R x w A A2 c c2 (hG.up EG hw.bel) (hR.up EP hw.bel) hGl hRl)) (fun _ _ => ?_)
     refine JPg (rp2 rfl rfl (fun ρ hx hy w => ex_eqlD rfl hx hy)) ?_
     refine JP (rp_pickT rfl rfl rfl) ?_
     refine JN rfl rfl rfl rfl rfl ?_
     refine JL_nil ?_
     refine JQ_then_n ?_
     refine J_ret ?_
     refine JR_one rfl (rr_tmp rfl) ?_
     intro w' hw
     have e : fmB T G R x n = decide (((cntB G R x : Nat) : Int) = 1) := by
       unfold fmB
       rw [decide_eq_true h11, h18, h22, h28]
       simp [show (((cntB G R x : Nat) : Int) = 1) ↔ cntB G R x = 1 by omega]
     rw [e]
     exact ⟨rfl, hw.bel⟩
    ·refine JP (rp_pickT rfl rfl rfl) ?_
     refine JN rfl rfl rfl rfl rfl ?_
     refine JL_nil ?_
     refine JQ_then_n ?_
     refine J_seq ?_
     refine J_keep (l' := [(3, _), (4, _), (7, _), (8, _)]) ⟨rfl, rfl, rfl, rfl, trivial⟩ ?_
     refine J_reg ?_
     refine JM rfl rfl rfl rfl rfl ?_
     refine JM rfl rfl rfl rfl rfl ?_
     refine JF ?_
     refine JP (rp_pickT rfl rfl rfl) ?_
     refine JM rfl rfl rfl rfl rfl ?_
     refine JVg (rv_agg (cs := [_, _, _]) rfl rfl ag_25 sz_25 (by repeat constructor) (by rfl)) ?_
     refine JVg (rv_agg (cs := [_, _]) rfl rfl ag_89 sz_89 (by repeat constructor) (by rfl)) ?_
     refine JL_op (wn_g rfl rfl rfl rfl) (ow_callB (ec_fn rfl rfl cf_83) rfl rfl (fun w hw => count83 T G R x w A A2 c c2 (hG.up EG hw.bel) (hR.up EP hw.bel) hGl hRl)) (fun _ _ => ?_)
     refine JPg (rp2 rfl rfl (fun ρ hx hy w => ex_eqlD rfl hx hy)) ?_
     refine JP (rp_pickT rfl rfl rfl) ?_
     refine JN rfl rfl rfl rfl rfl ?_
     refine JL_nil ?_
     refine JQ_then_n ?_
     refine J_ret ?_
     refine JR_one rfl (rr_tmp rfl) ?_
     intro w' hw
     have e : fmB T G R x n = decide (((cntB G R x : Nat) : Int) = 1) := by
       unfold fmB
       rw [decide_eq_true h11, h18, h22, h28]
       simp [show (((cntB G R x : Nat) : Int) = 1) ↔ cntB G R x = 1 by omega]
     rw [e]
     exact ⟨rfl, hw.bel⟩
   ·refine JM rfl rfl rfl rfl rfl ?_
    refine JF ?_
    refine JF ?_
    refine JF ?_
    refine JF ?_
    refine JF ?_
    refine JP (rp_pickF rfl rfl rfl) ?_
    refine JN rfl rfl rfl rfl rfl ?_
    refine JL_nil ?_
    refine JQ_then_n ?_
    refine J_seq ?_
    refine J_keep (l' := [(3, _), (4, _), (7, _), (8, _)]) ⟨rfl, rfl, rfl, rfl, trivial⟩ ?_
    refine J_reg ?_
    refine JM rfl rfl rfl rfl rfl ?_
    refine JM rfl rfl rfl rfl rfl ?_
    refine JF ?_
    refine JP (rp_pickT rfl rfl rfl) ?_
    refine JM rfl rfl rfl rfl rfl ?_
    refine JVg (rv_agg (cs := [_, _, _]) rfl rfl ag_25 sz_25 (by repeat constructor) (by rfl)) ?_
    refine JVg (rv_agg (cs := [_, _]) rfl rfl ag_89 sz_89 (by repeat constructor) (by rfl)) ?_
    refine JL_op (wn_g rfl rfl rfl rfl) (ow_callB (ec_fn rfl rfl cf_83) rfl rfl (fun w hw => count83 T G R x w A A2 c c2 (hG.up EG hw.bel) (hR.up EP hw.bel) hGl hRl)) (fun _ _ => ?_)
    refine JPg (rp2 rfl rfl (fun ρ hx hy w => ex_eqlD rfl hx hy)) ?_
    refine JP (rp_pickT rfl rfl rfl) ?_
    refine JN rfl rfl rfl rfl rfl ?_
    refine JL_nil ?_
    refine JQ_then_n ?_
    refine J_ret ?_
    refine JR_one rfl (rr_tmp rfl) ?_
    intro w' hw
    have e : fmB T G R x n = decide (((cntB G R x : Nat) : Int) = 1) := by
      unfold fmB
      rw [decide_eq_true h11, h18, h22]
      simp [show (((cntB G R x : Nat) : Int) = 1) ↔ cntB G R x = 1 by omega]
    rw [e]
    exact ⟨rfl, hw.bel⟩
  ·refine JP (rp_pickT rfl rfl rfl) ?_
   refine JN rfl rfl rfl rfl rfl ?_
   refine JL_nil ?_
   refine JQ_then_n ?_
   refine J_seq ?_
   refine J_keep (l' := [(2, _), (3, _), (4, _), (7, _)]) ⟨rfl, rfl, rfl, rfl, trivial⟩ ?_
   refine J_reg ?_
   refine JP (rp_fieldC (off' := 0) rfl rfl fa_89_0 rfl) ?_
   refine JV (rv_cell rfl rfl ag_3 (by repeat constructor) (by rfl)) ?_
   refine JL_op (wn0 rfl) (ow_callP (ec_fn rfl rfl cf_52) rfl rfl (fun w hw => in52 x.1 1 2 w)) (fun _ _ => ?_)
   refine JL_bool (fun h22 => ?_) (fun h22 => ?_)
   ·refine JM rfl rfl rfl rfl rfl ?_
    refine JPg (rp_fieldC (off' := 1) rfl rfl fa_89_1 rfl) ?_
    refine JVg (rv_cell rfl rfl ag_3 (by repeat constructor) (by rfl)) ?_
    refine JPg (rp_move rfl rfl) ?_
    refine JPg (rp2 rfl rfl (fun ρ hx hy w => ex_sub rfl hx hy (by omega))) ?_
    refine JL_op (wn_g rfl rfl rfl rfl) (ow_callP (ec_fn rfl rfl cf_52) rfl rfl (fun w hw => in52 x.2 0 (n - 1) w)) (fun _ _ => ?_)
    refine JL_bool (fun h28 => ?_) (fun h28 => ?_)
    ·refine JP (rp_pickT rfl rfl rfl) ?_
     refine JN rfl rfl rfl rfl rfl ?_
     refine JL_nil ?_
     refine JQ_then_n ?_
     refine J_seq ?_
     refine J_keep (l' := [(3, _), (4, _), (7, _), (8, _)]) ⟨rfl, rfl, rfl, rfl, trivial⟩ ?_
     refine J_reg ?_
     refine JM rfl rfl rfl rfl rfl ?_
     refine JM rfl rfl rfl rfl rfl ?_
     refine JPg (rp_move rfl rfl) ?_
     refine JP (rp_pickF rfl rfl rfl) ?_
     refine JM rfl rfl rfl rfl rfl ?_
     refine JVg (rv_agg (cs := [_, _, _]) rfl rfl ag_25 sz_25 (by repeat constructor) (by rfl)) ?_
     refine JVg (rv_agg (cs := [_, _]) rfl rfl ag_89 sz_89 (by repeat constructor) (by rfl)) ?_
     refine JL_op (wn_g rfl rfl rfl rfl) (ow_callB (ec_fn rfl rfl cf_83) rfl rfl (fun w hw => count83 T G R x w A A2 c c2 (hG.up EG hw.bel) (hR.up EP hw.bel) hGl hRl)) (fun _ _ => ?_)
     refine JPg (rp2 rfl rfl (fun ρ hx hy w => ex_eqlD rfl hx hy)) ?_
     refine JP (rp_pickT rfl rfl rfl) ?_
     refine JN rfl rfl rfl rfl rfl ?_
     refine JL_nil ?_
     refine JQ_then_n ?_
     refine J_ret ?_
     refine JR_one rfl (rr_tmp rfl) ?_
     intro w' hw
     have e : fmB T G R x n = decide (((cntB G R x : Nat) : Int) = 1) := by
       unfold fmB
       rw [decide_eq_true h11, h18, h22, h28]
       simp [show (((cntB G R x : Nat) : Int) = 1) ↔ cntB G R x = 1 by omega]
     rw [e]
     exact ⟨rfl, hw.bel⟩
    ·refine JP (rp_pickT rfl rfl rfl) ?_
     refine JN rfl rfl rfl rfl rfl ?_
     refine JL_nil ?_
     refine JQ_then_n ?_
     refine J_seq ?_
     refine J_keep (l' := [(3, _), (4, _), (7, _), (8, _)]) ⟨rfl, rfl, rfl, rfl, trivial⟩ ?_
     refine J_reg ?_
     refine JM rfl rfl rfl rfl rfl ?_
     refine JM rfl rfl rfl rfl rfl ?_
     refine JPg (rp_move rfl rfl) ?_
     refine JP (rp_pickF rfl rfl rfl) ?_
     refine JM rfl rfl rfl rfl rfl ?_
     refine JF ?_
     refine JF ?_
     refine JF ?_
     refine JF ?_
     refine JP (rp_pickF rfl rfl rfl) ?_
     refine JN rfl rfl rfl rfl rfl ?_
     refine JL_nil ?_
     refine JQ_then_n ?_
     refine J_ret ?_
     refine JR_one rfl (rr_tmp rfl) ?_
     intro w' hw
     have e : fmB T G R x n = false := by
       unfold fmB
       rw [decide_eq_true h11, h18, h22, h28]
       simp
     rw [e]
     exact ⟨rfl, hw.bel⟩
   ·refine JM rfl rfl rfl rfl rfl ?_
    refine JF ?_
    refine JF ?_
    refine JF ?_
    refine JF ?_
    refine JF ?_
    refine JP (rp_pickF rfl rfl rfl) ?_
    refine JN rfl rfl rfl rfl rfl ?_
    refine JL_nil ?_
    refine JQ_then_n ?_
    refine J_seq ?_
    refine J_keep (l' := [(3, _), (4, _), (7, _), (8, _)]) ⟨rfl, rfl, rfl, rfl, trivial⟩ ?_
    refine J_reg ?_
    refine JM rfl rfl rfl rfl rfl ?_
    refine JM rfl rfl rfl rfl rfl ?_
    refine JPg (rp_move rfl rfl) ?_
    refine JP (rp_pickF rfl rfl rfl) ?_
    refine JM rfl rfl rfl rfl rfl ?_
    refine JF ?_
    refine JF ?_
    refine JF ?_
    refine JF ?_
    refine JP (rp_pickF rfl rfl rfl) ?_
    refine JN rfl rfl rfl rfl rfl ?_
    refine JL_nil ?_
    refine JQ_then_n ?_
    refine J_ret ?_
    refine JR_one rfl (rr_tmp rfl) ?_
    intro w' hw
    have e : fmB T G R x n = false := by
      unfold fmB
      rw [decide_eq_true h11, h18, h22]
      simp
    rw [e]
    exact ⟨rfl, hw.bel⟩
 ·refine JM rfl rfl rfl rfl rfl ?_
  refine JF ?_
  refine JF ?_
  refine JF ?_
  refine JF ?_
  refine JF ?_
  refine JF ?_
  refine JP (rp_pickF rfl rfl rfl) ?_
  refine JN rfl rfl rfl rfl rfl ?_
  refine JL_nil ?_
  refine JQ_then_n ?_
  refine J_seq ?_
  refine J_keep (l' := [(2, _), (3, _), (4, _), (7, _)]) ⟨rfl, rfl, rfl, rfl, trivial⟩ ?_
  refine J_reg ?_
  refine JP (rp_fieldC (off' := 0) rfl rfl fa_89_0 rfl) ?_
  refine JV (rv_cell rfl rfl ag_3 (by repeat constructor) (by rfl)) ?_
  refine JL_op (wn0 rfl) (ow_callP (ec_fn rfl rfl cf_52) rfl rfl (fun w hw => in52 x.1 1 2 w)) (fun _ _ => ?_)
  refine JL_bool (fun h22 => ?_) (fun h22 => ?_)
  ·refine JM rfl rfl rfl rfl rfl ?_
   refine JPg (rp_fieldC (off' := 1) rfl rfl fa_89_1 rfl) ?_
   refine JVg (rv_cell rfl rfl ag_3 (by repeat constructor) (by rfl)) ?_
   refine JPg (rp_move rfl rfl) ?_
   refine JPg (rp2 rfl rfl (fun ρ hx hy w => ex_sub rfl hx hy (by omega))) ?_
   refine JL_op (wn_g rfl rfl rfl rfl) (ow_callP (ec_fn rfl rfl cf_52) rfl rfl (fun w hw => in52 x.2 0 (n - 1) w)) (fun _ _ => ?_)
   refine JL_bool (fun h28 => ?_) (fun h28 => ?_)
   ·refine JP (rp_pickT rfl rfl rfl) ?_
    refine JN rfl rfl rfl rfl rfl ?_
    refine JL_nil ?_
    refine JQ_then_n ?_
    refine J_seq ?_
    refine J_keep (l' := [(3, _), (4, _), (7, _), (8, _)]) ⟨rfl, rfl, rfl, rfl, trivial⟩ ?_
    refine J_reg ?_
    refine JM rfl rfl rfl rfl rfl ?_
    refine JM rfl rfl rfl rfl rfl ?_
    refine JPg (rp_move rfl rfl) ?_
    refine JP (rp_pickF rfl rfl rfl) ?_
    refine JM rfl rfl rfl rfl rfl ?_
    refine JVg (rv_agg (cs := [_, _, _]) rfl rfl ag_25 sz_25 (by repeat constructor) (by rfl)) ?_
    refine JVg (rv_agg (cs := [_, _]) rfl rfl ag_89 sz_89 (by repeat constructor) (by rfl)) ?_
    refine JL_op (wn_g rfl rfl rfl rfl) (ow_callB (ec_fn rfl rfl cf_83) rfl rfl (fun w hw => count83 T G R x w A A2 c c2 (hG.up EG hw.bel) (hR.up EP hw.bel) hGl hRl)) (fun _ _ => ?_)
    refine JPg (rp2 rfl rfl (fun ρ hx hy w => ex_eqlD rfl hx hy)) ?_
    refine JP (rp_pickT rfl rfl rfl) ?_
    refine JN rfl rfl rfl rfl rfl ?_
    refine JL_nil ?_
    refine JQ_then_n ?_
    refine J_ret ?_
    refine JR_one rfl (rr_tmp rfl) ?_
    intro w' hw
    have e : fmB T G R x n = decide (((cntB G R x : Nat) : Int) = 1) := by
      unfold fmB
      rw [decide_eq_false h11, h22, h28]
      simp [show (((cntB G R x : Nat) : Int) = 1) ↔ cntB G R x = 1 by omega]
    rw [e]
    exact ⟨rfl, hw.bel⟩
   ·refine JP (rp_pickT rfl rfl rfl) ?_
    refine JN rfl rfl rfl rfl rfl ?_
    refine JL_nil ?_
    refine JQ_then_n ?_
    refine J_seq ?_
    refine J_keep (l' := [(3, _), (4, _), (7, _), (8, _)]) ⟨rfl, rfl, rfl, rfl, trivial⟩ ?_
    refine J_reg ?_
    refine JM rfl rfl rfl rfl rfl ?_
    refine JM rfl rfl rfl rfl rfl ?_
    refine JPg (rp_move rfl rfl) ?_
    refine JP (rp_pickF rfl rfl rfl) ?_
    refine JM rfl rfl rfl rfl rfl ?_
    refine JF ?_
    refine JF ?_
    refine JF ?_
    refine JF ?_
    refine JP (rp_pickF rfl rfl rfl) ?_
    refine JN rfl rfl rfl rfl rfl ?_
    refine JL_nil ?_
    refine JQ_then_n ?_
    refine J_ret ?_
    refine JR_one rfl (rr_tmp rfl) ?_
    intro w' hw
    have e : fmB T G R x n = false := by
      unfold fmB
      rw [decide_eq_false h11, h22, h28]
      simp
    rw [e]
    exact ⟨rfl, hw.bel⟩
  ·refine JM rfl rfl rfl rfl rfl ?_
   refine JF ?_
   refine JF ?_
   refine JF ?_
   refine JF ?_
   refine JF ?_
   refine JP (rp_pickF rfl rfl rfl) ?_
   refine JN rfl rfl rfl rfl rfl ?_
   refine JL_nil ?_
   refine JQ_then_n ?_
   refine J_seq ?_
   refine J_keep (l' := [(3, _), (4, _), (7, _), (8, _)]) ⟨rfl, rfl, rfl, rfl, trivial⟩ ?_
   refine J_reg ?_
   refine JM rfl rfl rfl rfl rfl ?_
   refine JM rfl rfl rfl rfl rfl ?_
   refine JPg (rp_move rfl rfl) ?_
   refine JP (rp_pickF rfl rfl rfl) ?_
   refine JM rfl rfl rfl rfl rfl ?_
   refine JF ?_
   refine JF ?_
   refine JF ?_
   refine JF ?_
   refine JP (rp_pickF rfl rfl rfl) ?_
   refine JN rfl rfl rfl rfl rfl ?_
   refine JL_nil ?_
   refine JQ_then_n ?_
   refine J_ret ?_
   refine JR_one rfl (rr_tmp rfl) ?_
   intro w' hw
   have e : fmB T G R x n = false := by
     unfold fmB
     rw [decide_eq_false h11, h22]
     simp
   rw [e]
   exact ⟨rfl, hw.bel⟩
end Go.Proofs.Ytlfbbofcnonhdaa
