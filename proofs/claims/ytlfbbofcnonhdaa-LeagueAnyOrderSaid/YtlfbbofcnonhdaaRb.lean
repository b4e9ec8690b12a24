import Derived.Test.YtlfbbofcnonhdaaRa
/- Contracts of the document: byWins. -/
namespace Go.Proofs.Ytlfbbofcnonhdaa
open Go Go.RowKit Go.Proofs

theorem refRow_b (l : List Re) (t : Int) (h : ∀ x ∈ l, ReB x) : (0 ≤ (refRow l t).draws ∧ (refRow l t).draws ≤ l.length) ∧ (0 ≤ (refRow l t).len ∧ (refRow l t).len ≤ 100000 * l.length) ∧ (0 ≤ (refRow l t).wins ∧ (refRow l t).wins ≤ l.length) := by
 have hb := refF_b t l h l.length (Nat.le_refl _)
 rw [List.take_length] at hb
 obtain ⟨q1, q2, q3, q4, q5, q6, q7, q8, q9, q10⟩ := hb
 unfold refRow cutR
 split
 ·simp only; omega
 ·omega
/-- Teams with so many wins. -/
def bwO (l : List Re) (g : List Int) (w : Int) : List Int := g.filter fun t => decide ((refRow l t).wins = w)
/-- Teams, split by their wins, more first: so many numbers of wins gone through. -/
def bwF (l : List Re) (g : List Int) (j : Nat) : List (List Int) := ((List.range j).map fun i : Nat => bwO l g ((l.length : Int) - (i : Int))).filter fun d => !d.isEmpty
theorem bwF_succ (l : List Re) (g : List Int) (j : Nat) : bwF l g (j + 1) = bwF l g j ++ if bwO l g ((l.length : Int) - (j : Int)) = [] then [] else [bwO l g ((l.length : Int) - (j : Int))] := by
 unfold bwF
 rw [List.range_succ, List.map_append, List.filter_append]
 congr 1
 by_cases h : bwO l g ((l.length : Int) - (j : Int)) = []
 ·rw [if_pos h]; simp [h]
 ·rw [if_neg h]
  simp [h]
theorem bwO_snoc (l : List Re) (g : List Int) (w : Int) (k : Nat) (h : k < g.length) : bwO l (g.take (k + 1)) w = if (refRow l (g[k]'h)).wins = w then bwO l (g.take k) w ++ [g[k]'h] else bwO l (g.take k) w := by
 rw [List.take_succ_eq_append_getElem h]
 unfold bwO
 rw [List.filter_append]
 by_cases hb : (refRow l (g[k]'h)).wins = w
 ·rw [if_pos hb]; simp [hb]
 ·rw [if_neg hb]; simp [hb]
theorem bwO_len (l : List Re) (g : List Int) (w : Int) (k : Nat) : (bwO l (g.take k) w).length ≤ g.length := by
 have h1 := List.length_filter_le (fun t => decide ((refRow l t).wins = w)) (g.take k)
 rw [List.length_take] at h1
 exact Nat.le_trans h1 (Nat.min_le_right _ _)
theorem bwF_len (l : List Re) (g : List Int) (j : Nat) : (bwF l g j).length ≤ j := by
 have h1 := List.length_filter_le (fun d : List Int => !d.isEmpty) ((List.range j).map fun i : Nat => bwO l g ((l.length : Int) - (i : Int)))
 simpa [bwF] using h1

set_option maxRecDepth 100000 in
set_option maxHeartbeats 4000000 in
theorem byWins89 (l : List Re) (g : List Int) (v u : Value) (w : World) (hrow : Arr 6 eR w v l) (hg : Arr 1 eI w u g) (hl : l.length ≤ 300) (hgl : g.length ≤ 1000) (hb : ∀ x ∈ l, ReB x) : Calls Try.prog 89 #[v, u] w (RetD 26 1 eI (fun _ => False) (bwF l g (l.length + 1)) w) := by
 obtain ⟨A, cap, rfl⟩ := hrow.form
 obtain ⟨A1, cap1, rfl, -, -, hA1⟩ := hg
 refine J_enter (fun _ => False) (vs := [.slice A l.length cap, .slice A1 g.length cap1]) (k := 43) (l := [(0, .slice A l.length cap), (1, .slice A1 g.length cap1)]) Try.func89 rfl rfl Try.ntmps89 rfl rfl (Wd.start _) ?_
 refine J_seq ?_
 refine J_reg ?_
 refine JN rfl rfl rfl rfl rfl ?_
 refine JL_nil ?_
 refine JQ_then_n ?_
 refine J_seq ?_
 refine J_own0 26 1 ?_
 refine J_sls0 1 eI ?_
 refine J_reg ?_
 refine JN rfl rfl rfl rfl rfl ?_
 refine JL_nil ?_
 refine JQ_then_n ?_
 refine J_seq ?_
 refine J_seq ?_
 refine J_reg ?_
 refine JM rfl rfl rfl rfl rfl ?_
 refine JP (rp1 rfl (fun ρ hx w => ex_len (A := _) (c := _) rfl Try.underlying44 hx)) ?_
 refine JN rfl rfl rfl rfl rfl ?_
 refine JL_nil ?_
 refine JQ_then_n ?_
 refine J_block ?_
 refine J_loop (T := Nat × Option Addr × Nat × List (Dv Int)) (fun q => q.1 ≤ l.length + 1 ∧ q.2.2.2.map Dv.l = bwF l g q.1 ∧ DvNew w (fun _ => False) q.2.2.2) (fun q => [(0, .slice A l.length cap), (1, .slice A1 g.length cap1), (5, .slice q.2.1 q.2.2.2.length q.2.2.1), (6, .int .i64 ((l.length : Int) - (q.1 : Int)))]) (fun q => [ownB 26 1 q.2.1 q.2.2.2.length q.2.2.1 (q.2.2.2.flatMap eD), slsB 1 eI q.2.2.2]) (fun q => l.length + 1 - q.1) (0, none, 0, []) ⟨Nat.zero_le _, rfl, DvNew.nil⟩ ⟨rfl, rfl, rfl, (congrArg some (congrArg (Value.int .i64) (by simp))), trivial⟩ (by repeat constructor) ?_
 rintro ⟨j, A5, c5, D⟩ ⟨hj, hD, hN⟩
 dsimp only at hj hD hN ⊢
 refine J_seq ?_
 refine J_seq ?_
 refine J_reg ?_
 refine JM rfl rfl rfl rfl rfl ?_
 refine JP (rp2 rfl rfl (fun ρ hx hy w => ex_geqD rfl hx hy)) ?_
 refine JL_dec (fun h12 => ?_) (fun h12 => ?_)
 ·refine JL_nil ?_
  refine JQ_then_n ?_
  refine J_yes rfl rfl ?_
  refine J_skip ?_
  refine JQ_then_n ?_
  refine J_seq ?_
  refine J_block ?_
  refine J_seq ?_
  refine J_reg ?_
  refine JN rfl rfl rfl rfl rfl ?_
  refine JL_nil ?_
  refine JQ_then_n ?_
  refine J_seq ?_
  refine J_seq ?_
  refine J_own0 3 1 ?_
  refine J_reg ?_
  refine JN rfl rfl rfl rfl rfl ?_
  refine JL_nil ?_
  refine JQ_then_n ?_
  refine J_block ?_
  refine J_loop (T := Nat × Option Addr × Nat) (fun q => q.1 ≤ g.length) (fun q => [(0, .slice A l.length cap), (1, .slice A1 g.length cap1), (5, .slice A5 D.length c5), (6, .int .i64 ((l.length : Int) - (j : Int))), (7, .slice q.2.1 (bwO l (g.take q.1) ((l.length : Int) - (j : Int))).length q.2.2), (8, .int .i64 (q.1 : Nat))]) (fun q => [ownB 3 1 q.2.1 (bwO l (g.take q.1) ((l.length : Int) - (j : Int))).length q.2.2 ((bwO l (g.take q.1) ((l.length : Int) - (j : Int))).flatMap eI), ownB 26 1 A5 D.length c5 (D.flatMap eD), slsB 1 eI D]) (fun q => g.length - q.1) (0, none, 0) (Nat.zero_le _) ⟨rfl, rfl, rfl, rfl, rfl, rfl, trivial⟩ (by repeat constructor) ?_
  rintro ⟨k, A7, c7⟩ hk
  dsimp only at hk ⊢
  refine J_seq ?_
  refine J_seq ?_
  refine J_reg ?_
  refine JM rfl rfl rfl rfl rfl ?_
  refine JM rfl rfl rfl rfl rfl ?_
  refine JP (rp1 rfl (fun ρ hx w => ex_len (A := _) (c := _) rfl Try.underlying26 hx)) ?_
  refine JP (rp2 rfl rfl (fun ρ hx hy w => ex_lssD rfl hx hy)) ?_
  refine JL_dec (fun h18 => ?_) (fun h18 => ?_)
  ·refine JL_nil ?_
   refine JQ_then_n ?_
   refine J_yes rfl rfl ?_
   refine J_skip ?_
   refine JQ_then_n ?_
   refine J_seq ?_
   refine J_block ?_
   refine J_seq ?_
   have hlt : k < g.length := by omega
   obtain ⟨b, p, rfl, hh⟩ := hA1 (by intro e; subst e; simp at hlt)
   have hln := bwO_len l g ((l.length : Int) - (j : Int)) k
   refine J_keep (l' := [(0, _), (1, _), (5, _), (6, _), (7, _), (8, _)]) ⟨rfl, rfl, rfl, rfl, rfl, rfl, trivial⟩ ?_
   refine J_reg ?_
   refine JM rfl rfl rfl rfl rfl ?_
   refine JM rfl rfl rfl rfl rfl ?_
   refine JM rfl rfl rfl rfl rfl ?_
   refine JP (rp2 rfl rfl (fun ρ hx hy w => ex_indexE rfl hx hy Try.underlying26 sz_3 (by omega))) ?_
   refine JV (rv_hold rfl rfl ag_3 (fun h => h) hh (by omega) (by omega) rfl) ?_
   refine JL_op (wn0 rfl) (ow_callB (ec_fn rfl rfl cf_66) rfl rfl (fun w hw => row66 l (g[k]'hlt) _ w (hrow.up ER hw.bel) hl hb)) (fun _ _ => ?_)
   refine JP (rp_run1 (f := fun u => Instr.field 58 u 3) (fun _ => rfl) rfl (fv_58_3 _ _ _ _ _ _ _ _)) ?_
   refine JM rfl rfl rfl rfl rfl ?_
   refine JP (rp2 rfl rfl (fun ρ hx hy w => ex_eqlD rfl hx hy)) ?_
   refine JL_dec (fun h29 => ?_) (fun h29 => ?_)
   ·refine JL_nil ?_
    refine JQ_then_n ?_
    refine J_yes rfl rfl ?_
    refine J_keep (l' := [(0, _), (1, _), (5, _), (6, _), (7, _), (8, _)]) ⟨rfl, rfl, rfl, rfl, rfl, rfl, trivial⟩ ?_
    refine J_reg ?_
    refine JM rfl rfl rfl rfl rfl ?_
    refine JM rfl rfl rfl rfl rfl ?_
    refine JM rfl rfl rfl rfl rfl ?_
    refine JP (rp2 rfl rfl (fun ρ hx hy w => ex_indexE rfl hx hy Try.underlying26 sz_3 (by omega))) ?_
    refine JV (rv_hold rfl rfl ag_3 (fun h => h) hh (by omega) (by omega) rfl) ?_
    refine JL_op (wn0 rfl) (ow_sliceC (vs := [_]) (ty := 3) rfl rfl (by rfl) rfl rfl (fun _ => by kernel_rfl)) (fun b35 hb35 => ?_)
    refine JL_opS (wn0 rfl) (ow_app1 EI (by decide) (g[k]'hlt) Try.underlying26 Try.info3 rfl (by decide) rfl rfl rfl rfl rfl (by repeat constructor) (by rfl) (by omega) (by intro A c; repeat constructor)) (fun A36 c36 => ?_)
    refine JN rfl rfl rfl rfl rfl ?_
    refine JL_nil ?_
    refine JQ_block_n ?_
    refine JQ_then_n ?_
    refine J_keep (l' := [(0, _), (1, _), (5, _), (6, _), (7, _), (8, _)]) ⟨rfl, rfl, rfl, rfl, rfl, rfl, trivial⟩ ?_
    refine J_reg ?_
    refine JM rfl rfl rfl rfl rfl ?_
    refine JP (rp2 rfl rfl (fun ρ hx hy w => ex_add rfl hx hy (by omega))) ?_
    refine JN rfl rfl rfl rfl rfl ?_
    refine JL_nil ?_
    have hsn := bwO_snoc l g ((l.length : Int) - (j : Int)) k hlt
    rw [if_pos h29] at hsn
    exact JQ_round (k + 1, A36, c36) (by dsimp only; omega) (by dsimp only; omega) ⟨rfl, rfl, rfl, rfl, (by rw [hsn]; rfl), (congrArg some (by go_num)), trivial⟩ (by (try dsimp only); rw [hsn]; repeat (first | exact Pk.nil _ | (refine Pk.pick (by repeat (first | exact Rm.here _ | apply Rm.there)) ?_)))
   ·refine JL_nil ?_
    refine JQ_then_n ?_
    refine J_no rfl rfl ?_
    refine J_skip ?_
    refine JQ_block_n ?_
    refine JQ_then_n ?_
    refine J_keep (l' := [(0, _), (1, _), (5, _), (6, _), (7, _), (8, _)]) ⟨rfl, rfl, rfl, rfl, rfl, rfl, trivial⟩ ?_
    refine J_reg ?_
    refine JM rfl rfl rfl rfl rfl ?_
    refine JP (rp2 rfl rfl (fun ρ hx hy w => ex_add rfl hx hy (by omega))) ?_
    refine JN rfl rfl rfl rfl rfl ?_
    refine JL_nil ?_
    have hsn := bwO_snoc l g ((l.length : Int) - (j : Int)) k hlt
    rw [if_neg h29] at hsn
    exact JQ_round (k + 1, A7, c7) (by dsimp only; omega) (by dsimp only; omega) ⟨rfl, rfl, rfl, rfl, (by rw [hsn]; rfl), (congrArg some (by go_num)), trivial⟩ (by (try dsimp only); rw [hsn]; repeat (first | exact Pk.nil _ | (refine Pk.pick (by repeat (first | exact Rm.here _ | apply Rm.there)) ?_)))
  ·refine JL_nil ?_
   refine JQ_then_n ?_
   refine J_no rfl rfl ?_
   refine J_exit ?_
   refine JQ_then_x ?_
   refine JQ_then_x ?_
   refine JQ_block_y rfl ?_
   refine JQ_then_n ?_
   refine J_seq ?_
   have ek : k = g.length := by omega
   subst ek
   rw [List.take_length]
   have hln := bwO_len l g ((l.length : Int) - (j : Int)) g.length
   rw [List.take_length] at hln
   have hDl : D.length ≤ j := by
    have h1 := bwF_len l g j
    rw [← hD, List.length_map] at h1; exact h1
   refine J_keep (l' := [(0, _), (1, _), (5, _), (6, _), (7, _)]) ⟨rfl, rfl, rfl, rfl, rfl, trivial⟩ ?_
   refine J_reg ?_
   refine JM rfl rfl rfl rfl rfl ?_
   refine JP (rp1 rfl (fun ρ hx w => ex_len (A := _) (c := _) rfl Try.underlying26 hx)) ?_
   refine JP (rp2 rfl rfl (fun ρ hx hy w => ex_gtrD rfl hx hy)) ?_
   refine JL_dec (fun h39 => ?_) (fun h39 => ?_)
   ·refine JL_nil ?_
    refine JQ_then_n ?_
    refine J_yes rfl rfl ?_
    refine J_fact (fun hf => ?_)
    have hnew : DvNew w (fun _ => False) [(⟨A7, (bwO l g ((l.length : Int) - (j : Int))).length, c7, bwO l g ((l.length : Int) - (j : Int))⟩ : Dv Int)] := own_new hf (List.Mem.head _)
    refine J_freeze EI (by repeat constructor) (by omega) ?_
    refine J_merge (D := D) (by repeat (first | exact Rm.here _ | apply Rm.there)) (by repeat (first | exact Rm.here _ | apply Rm.there)) ?_
    refine J_reg ?_
    refine JM rfl rfl rfl rfl rfl ?_
    refine JM rfl rfl rfl rfl rfl ?_
    refine JL_op (wn0 rfl) (ow_sliceC (vs := [_]) (ty := 26) rfl rfl (by rfl) rfl rfl (fun _ => by kernel_rfl)) (fun b42 hb42 => ?_)
    refine JL_opS (wn0 rfl) (ow_app1 ED (by decide) ((⟨A7, (bwO l g ((l.length : Int) - (j : Int))).length, c7, bwO l g ((l.length : Int) - (j : Int))⟩ : Dv Int)) Try.underlying113 Try.info26 rfl (by decide) rfl rfl rfl rfl rfl (by repeat constructor) (by rfl) (by omega) (by intro A c; repeat constructor)) (fun A43 c43 => ?_)
    refine JN rfl rfl rfl rfl rfl ?_
    refine JL_nil ?_
    refine JQ_block_n ?_
    refine JQ_then_n ?_
    refine J_keep (l' := [(0, _), (1, _), (5, _), (6, _)]) ⟨rfl, rfl, rfl, rfl, trivial⟩ ?_
    refine J_reg ?_
    refine JM rfl rfl rfl rfl rfl ?_
    refine JP (rp2 rfl rfl (fun ρ hx hy w => ex_sub rfl hx hy (by omega))) ?_
    refine JN rfl rfl rfl rfl rfl ?_
    refine JL_nil ?_
    have hsu := bwF_succ l g j
    rw [if_neg (show ¬ bwO l g ((l.length : Int) - (j : Int)) = [] from fun e => by rw [e] at h39; simp at h39)] at hsu
    exact JQ_round (j + 1, A43, c43, D ++ [⟨A7, (bwO l g ((l.length : Int) - (j : Int))).length, c7, bwO l g ((l.length : Int) - (j : Int))⟩]) ⟨by dsimp only; omega, by dsimp only; rw [List.map_append, hD, hsu]; rfl, hN.app hnew⟩ (by dsimp only; omega) ⟨rfl, rfl, rfl, (congrArg some (congrArg (Value.int .i64) (by omega))), trivial⟩ (by repeat constructor)
   ·refine JL_nil ?_
    refine JQ_then_n ?_
    refine J_no rfl rfl ?_
    refine J_skip ?_
    refine JQ_block_n ?_
    refine JQ_then_n ?_
    refine J_keep (l' := [(0, _), (1, _), (5, _), (6, _)]) ⟨rfl, rfl, rfl, rfl, trivial⟩ ?_
    refine J_reg ?_
    refine JM rfl rfl rfl rfl rfl ?_
    refine JP (rp2 rfl rfl (fun ρ hx hy w => ex_sub rfl hx hy (by omega))) ?_
    refine JN rfl rfl rfl rfl rfl ?_
    refine JL_nil ?_
    have hsu := bwF_succ l g j
    rw [if_pos (show bwO l g ((l.length : Int) - (j : Int)) = [] from List.length_eq_zero_iff.1 (by omega)), List.append_nil] at hsu
    exact JQ_round (j + 1, A5, c5, D) ⟨by dsimp only; omega, by dsimp only; rw [hD, hsu], hN⟩ (by dsimp only; omega) ⟨rfl, rfl, rfl, (congrArg some (congrArg (Value.int .i64) (by omega))), trivial⟩ (by repeat constructor)
 ·refine JL_nil ?_
  refine JQ_then_n ?_
  refine J_no rfl rfl ?_
  refine J_exit ?_
  refine JQ_then_x ?_
  refine JQ_then_x ?_
  refine JQ_block_y rfl ?_
  refine JQ_then_n ?_
  refine J_seq ?_
  refine J_keep (l' := [(5, _)]) ⟨rfl, trivial⟩ ?_
  refine J_reg ?_
  refine JM rfl rfl rfl rfl rfl ?_
  refine JN rfl rfl rfl rfl rfl ?_
  refine JL_nil ?_
  refine JQ_then_n ?_
  refine J_ret ?_
  refine JR_one rfl (rr_tmp rfl) ?_
  intro w' hw
  have e : j = l.length + 1 := by omega
  subst e
  exact ⟨A5, c5, D, hD, rfl, hw.pick (by repeat constructor), hN⟩
end Go.Proofs.Ytlfbbofcnonhdaa

/- Contracts of the document: byMeasures. -/
namespace Go.Proofs.Ytlfbbofcnonhdaa
open Go Go.RowKit Go.Proofs

/-- The best of the first teams. -/
def bfR (l : List Re) (x y : Int) : Bool := befB (refRow l x) (refRow l y)
def bst (l : List Re) (b : Int) (g : List Int) : Int := g.foldl (fun b x => if bfR l x b then x else b) b
def bmO (l : List Re) (b : Int) (g : List Int) : List Int := g.filter fun x => !bfR l b x
def bmN (l : List Re) (b : Int) (g : List Int) : List Int := g.filter fun x => bfR l b x
/-- Teams, split by their measures. -/
def bmF (l : List Re) : Nat → List Int → List (List Int)
 | 0, _ => []
 | _ + 1, [] => []
 | f + 1, b :: g => bmO l (bst l b (b :: g)) (b :: g) :: bmF l f (bmN l (bst l b (b :: g)) (b :: g))
theorem bmF_cons (l : List Re) (f : Nat) : ∀ (g : List Int) (h : 0 < g.length) (x : Int), g[0]'h = x → bmF l (f + 1) g = bmO l (bst l x g) g :: bmF l f (bmN l (bst l x g) g)
 | b :: g, _, x, e => by
  have e' : b = x := e
  subst e'; rfl
theorem bst_snoc (l : List Re) (b : Int) (g : List Int) (k : Nat) (h : k < g.length) : bst l b (g.take (k + 1)) = if bfR l (g[k]'h) (bst l b (g.take k)) then g[k]'h else bst l b (g.take k) := by
 rw [List.take_succ_eq_append_getElem h]
 unfold bst
 rw [List.foldl_append]; rfl
theorem bst_mem (l : List Re) (b : Int) : ∀ (g : List Int) (k : Nat), k ≤ g.length → bst l b (g.take k) = b ∨ bst l b (g.take k) ∈ g
 | g, 0, _ => .inl rfl
 | g, k + 1, h => by
  rw [bst_snoc l b g k (by omega)]
  split
  ·exact .inr (List.getElem_mem _)
  ·exact bst_mem l b g k (by omega)
theorem filter_snoc {p : Int → Bool} (g : List Int) (k : Nat) (h : k < g.length) : (g.take (k + 1)).filter p = if p (g[k]'h) then (g.take k).filter p ++ [g[k]'h] else (g.take k).filter p := by
 rw [List.take_succ_eq_append_getElem h, List.filter_append]
 cases hb : p (g[k]'h) <;> simp [hb]
theorem filter_len {p : Int → Bool} (g : List Int) (k : Nat) : ((g.take k).filter p).length ≤ g.length := by
 have h1 := List.length_filter_le p (g.take k)
 rw [List.length_take] at h1
 exact Nat.le_trans h1 (Nat.min_le_right _ _)
theorem befB_irr (a : Rw) : befB a a = false := by
 unfold befB
 split
 ·simp; omega
 ·simp
theorem bmN_lt (l : List Re) (b : Int) (g : List Int) (h : b ∈ g) : (bmN l b g).length < g.length := by
 unfold bmN
 refine Nat.lt_of_le_of_ne (List.length_filter_le _ _) (fun e => ?_)
 have := List.length_filter_eq_length_iff.1 e b h
 rw [bfR, befB_irr] at this; cases this

set_option maxRecDepth 100000 in
set_option maxHeartbeats 4000000 in
theorem byMeasures99 (l : List Re) (g : List Int) (v : Value) (w : World) (A1 : Option Addr) (cap1 : Nat) (hrow : Arr 6 eR w v l) (hg : Arr 1 eI w (.slice A1 g.length cap1) g) (hl : l.length ≤ 300) (hgl : g.length ≤ 1000) (hb : ∀ x ∈ l, ReB x) : Calls Try.prog 99 #[v, .slice A1 g.length cap1] w (RetD 26 1 eI (slsB 1 eI [⟨A1, g.length, cap1, g⟩]).foot (bmF l g.length g) w) := by
 obtain ⟨A, cap, rfl⟩ := hrow.form
 refine J_enter (fun _ => False) (vs := [.slice A l.length cap, .slice A1 g.length cap1]) (k := 73) (l := [(0, .slice A l.length cap), (1, .slice A1 g.length cap1)]) Try.func99 rfl rfl Try.ntmps99 rfl rfl (Wd.start _) ?_
 refine J_seq ?_
 refine J_reg ?_
 refine JN rfl rfl rfl rfl rfl ?_
 refine JL_nil ?_
 refine JQ_then_n ?_
 refine J_seq ?_
 refine J_own0 26 1 ?_
 refine J_sls0 1 eI ?_
 refine J_given (by decide) EI (fun _ h => h) hg ?_
 refine J_reg ?_
 refine JN rfl rfl rfl rfl rfl ?_
 refine JL_nil ?_
 refine JQ_then_n ?_
 refine J_seq ?_
 refine J_reg ?_
 refine JM rfl rfl rfl rfl rfl ?_
 refine JN rfl rfl rfl rfl rfl ?_
 refine JL_nil ?_
 refine JQ_then_n ?_
 refine J_seq ?_
 refine J_block ?_
 refine J_loop (T := Nat × Option Addr × Nat × List (Dv Int) × Option Addr × Nat × List Int) (fun q => q.2.2.2.2.2.2.length ≤ q.1 ∧ q.1 ≤ g.length ∧ q.2.2.2.1.map Dv.l ++ bmF l q.1 q.2.2.2.2.2.2 = bmF l g.length g ∧ DvNew w (slsB 1 eI [⟨A1, g.length, cap1, g⟩]).foot q.2.2.2.1 ∧ q.2.2.2.1.length ≤ g.length - q.1 ∧ DvNew w (slsB 1 eI [⟨A1, g.length, cap1, g⟩]).foot [(⟨q.2.2.2.2.1, q.2.2.2.2.2.2.length, q.2.2.2.2.2.1, q.2.2.2.2.2.2⟩ : Dv Int)]) (fun q => [(0, .slice A l.length cap), (5, .slice q.2.1 q.2.2.2.1.length q.2.2.1), (6, .slice q.2.2.2.2.1 q.2.2.2.2.2.2.length q.2.2.2.2.2.1)]) (fun q => [ownB 26 1 q.2.1 q.2.2.2.1.length q.2.2.1 (q.2.2.2.1.flatMap eD), slsB 1 eI q.2.2.2.1, slsB 1 eI [⟨q.2.2.2.2.1, q.2.2.2.2.2.2.length, q.2.2.2.2.2.1, q.2.2.2.2.2.2⟩]]) (fun q => q.2.2.2.2.2.2.length) (g.length, none, 0, [], A1, cap1, g) ⟨Nat.le_refl _, Nat.le_refl _, rfl, DvNew.nil, by simp, fun p hp hn b o e => .inr ⟨p, hp, hn, o, e⟩⟩ ⟨rfl, rfl, rfl, trivial⟩ (by repeat constructor) ?_
 rintro ⟨f, A5, c5, D, A6, c6, g6⟩ ⟨hf1, hf2, hD, hN, hDl, hN6⟩
 dsimp only at hf1 hf2 hD hN hDl hN6 ⊢
 refine J_seq ?_
 refine J_seq ?_
 refine J_reg ?_
 refine JM rfl rfl rfl rfl rfl ?_
 refine JP (rp1 rfl (fun ρ hx w => ex_len (A := _) (c := _) rfl Try.underlying26 hx)) ?_
 refine JP (rp2 rfl rfl (fun ρ hx hy w => ex_gtrD rfl hx hy)) ?_
 refine JL_dec (fun h15 => ?_) (fun h15 => ?_)
 ·refine JL_nil ?_
  refine JQ_then_n ?_
  refine J_yes rfl rfl ?_
  refine J_skip ?_
  refine JQ_then_n ?_
  refine J_block ?_
  refine J_seq ?_
  refine J_fact (fun hf => ?_)
  obtain ⟨-, hc1, hc2, hA6⟩ := sls_len (D := [⟨A6, g6.length, c6, g6⟩]) (p := ⟨A6, g6.length, c6, g6⟩) hf (by repeat constructor) (by simp)
  dsimp only at hc1 hc2 hA6
  obtain ⟨b6, o6, rfl⟩ := hA6 (by intro e; rw [e] at h15; simp at h15)
  have hpos : 0 < g6.length := by omega
  obtain ⟨x0, hx0'⟩ : ∃ x0, g6[0]'hpos = x0 := ⟨_, rfl⟩
  refine J_reg ?_
  refine JM rfl rfl rfl rfl rfl ?_
  refine JP (rp2 rfl rfl (fun ρ hx hy w => ex_indexI (k := 0) rfl hx hy rfl Try.underlying26 sz_3 (by omega))) ?_
  refine JV (rv_sls (D := [(⟨some ⟨b6, o6, none⟩, g6.length, c6, g6⟩ : Dv Int)]) (⟨some ⟨b6, o6, none⟩, g6.length, c6, g6⟩ : Dv Int) rfl rfl ag_3 (by repeat constructor) (by simp) rfl (by omega) (by omega) rfl) ?_
  refine JN rfl rfl rfl rfl rfl ?_
  refine JL_nil ?_
  refine JQ_then_n ?_
  refine J_seq ?_
  refine J_seq ?_
  refine J_keep (l' := [(0, _), (5, _), (6, _), (7, _)]) ⟨rfl, rfl, rfl, rfl, trivial⟩ ?_
  refine J_reg ?_
  refine JN rfl rfl rfl rfl rfl ?_
  refine JL_nil ?_
  refine JQ_then_n ?_
  refine J_block ?_
  refine J_loop (T := Nat) (fun k => k ≤ g6.length) (fun k => [(0, .slice A l.length cap), (5, .slice A5 D.length c5), (6, .slice (some ⟨b6, o6, none⟩) g6.length c6), (7, .int .i64 (bst l x0 (g6.take k))), (8, .int .i64 (k : Nat))]) (fun k => [ownB 26 1 A5 D.length c5 (D.flatMap eD), slsB 1 eI D, slsB 1 eI [(⟨some ⟨b6, o6, none⟩, g6.length, c6, g6⟩ : Dv Int)]]) (fun k => g6.length - k) 0 (Nat.zero_le _) ⟨rfl, rfl, rfl, (by rw [hx0']; rfl), rfl, trivial⟩ (by repeat constructor) ?_
  intro k hk
  refine J_seq ?_
  refine J_seq ?_
  refine J_reg ?_
  refine JM rfl rfl rfl rfl rfl ?_
  refine JM rfl rfl rfl rfl rfl ?_
  refine JP (rp1 rfl (fun ρ hx w => ex_len (A := _) (c := _) rfl Try.underlying26 hx)) ?_
  refine JP (rp2 rfl rfl (fun ρ hx hy w => ex_lssD rfl hx hy)) ?_
  refine JL_dec (fun h22 => ?_) (fun h22 => ?_)
  ·refine JL_nil ?_
   refine JQ_then_n ?_
   refine J_yes rfl rfl ?_
   refine J_skip ?_
   refine JQ_then_n ?_
   refine J_seq ?_
   refine J_block ?_
   refine J_seq ?_
   have hlt : k < g6.length := by omega
   have hbs : bfR l (g6[k]'hlt) (bst l x0 (g6.take k)) = true ∨ bfR l (g6[k]'hlt) (bst l x0 (g6.take k)) = false := by cases bfR l (g6[k]'hlt) (bst l x0 (g6.take k)) <;> simp
   rcases hbs with h34' | h34'
   ·have hlt : k < g6.length := by omega
    refine J_keep (l' := [(0, _), (5, _), (6, _), (7, _), (8, _)]) ⟨rfl, rfl, rfl, rfl, rfl, trivial⟩ ?_
    refine J_reg ?_
    refine JM rfl rfl rfl rfl rfl ?_
    refine JM rfl rfl rfl rfl rfl ?_
    refine JM rfl rfl rfl rfl rfl ?_
    refine JP (rp2 rfl rfl (fun ρ hx hy w => ex_indexE rfl hx hy Try.underlying26 sz_3 (by omega))) ?_
    refine JV (rv_sls (D := [(⟨some ⟨b6, o6, none⟩, g6.length, c6, g6⟩ : Dv Int)]) (⟨some ⟨b6, o6, none⟩, g6.length, c6, g6⟩ : Dv Int) rfl rfl ag_3 (by repeat constructor) (by simp) rfl (by omega) (by omega) rfl) ?_
    refine JL_op (wn0 rfl) (ow_callB (ec_fn rfl rfl cf_66) rfl rfl (fun w hw => row66 l (g6[k]'hlt) _ w (hrow.up ER hw.bel) hl hb)) (fun _ _ => ?_)
    refine JM rfl rfl rfl rfl rfl ?_
    refine JM rfl rfl rfl rfl rfl ?_
    refine JL_op (wn0 rfl) (ow_callB (ec_fn rfl rfl cf_66) rfl rfl (fun w hw => row66 l (bst l x0 (g6.take k)) _ w (hrow.up ER hw.bel) hl hb)) (fun _ _ => ?_)
    refine JL_op (wn0 rfl) (ow_callB (ec_fn rfl rfl cf_106) rfl rfl (fun w hw => (by have := (before106 (refRow l (g6[k]'hlt)) (refRow l (bst l x0 (g6.take k))) w (by have := refRow_b l (g6[k]'hlt) hb; omega) (by have := refRow_b l (bst l x0 (g6.take k)) hb; omega) (by have := refRow_b l (g6[k]'hlt) hb; omega) (by have := refRow_b l (bst l x0 (g6.take k)) hb; omega)); rw [show befB _ _ = _ from h34'] at this; exact this))) (fun _ _ => ?_)
    refine JL_nil ?_
    refine JQ_then_n ?_
    refine J_yes rfl rfl ?_
    refine J_keep (l' := [(0, _), (5, _), (6, _), (8, _)]) ⟨rfl, rfl, rfl, rfl, trivial⟩ ?_
    refine J_reg ?_
    refine JM rfl rfl rfl rfl rfl ?_
    refine JM rfl rfl rfl rfl rfl ?_
    refine JP (rp2 rfl rfl (fun ρ hx hy w => ex_indexE rfl hx hy Try.underlying26 sz_3 (by omega))) ?_
    refine JV (rv_sls (D := [(⟨some ⟨b6, o6, none⟩, g6.length, c6, g6⟩ : Dv Int)]) (⟨some ⟨b6, o6, none⟩, g6.length, c6, g6⟩ : Dv Int) rfl rfl ag_3 (by repeat constructor) (by simp) rfl (by omega) (by omega) rfl) ?_
    refine JN rfl rfl rfl rfl rfl ?_
    refine JL_nil ?_
    refine JQ_block_n ?_
    refine JQ_then_n ?_
    refine J_keep (l' := [(0, _), (5, _), (6, _), (7, _), (8, _)]) ⟨rfl, rfl, rfl, rfl, rfl, trivial⟩ ?_
    refine J_reg ?_
    refine JM rfl rfl rfl rfl rfl ?_
    refine JP (rp2 rfl rfl (fun ρ hx hy w => ex_add rfl hx hy (by omega))) ?_
    refine JN rfl rfl rfl rfl rfl ?_
    refine JL_nil ?_
    have hsn := bst_snoc l x0 g6 k hlt
    rw [show bfR l (g6[k]'hlt) (bst l x0 (g6.take k)) = true from h34'] at hsn
    exact JQ_round (k + 1) (by omega) (by omega) ⟨rfl, rfl, rfl, (by rw [hsn]; rfl), (congrArg some (by go_num)), trivial⟩ (by repeat constructor)
   ·have hlt : k < g6.length := by omega
    refine J_keep (l' := [(0, _), (5, _), (6, _), (7, _), (8, _)]) ⟨rfl, rfl, rfl, rfl, rfl, trivial⟩ ?_
    refine J_reg ?_
    refine JM rfl rfl rfl rfl rfl ?_
    refine JM rfl rfl rfl rfl rfl ?_
    refine JM rfl rfl rfl rfl rfl ?_
    refine JP (rp2 rfl rfl (fun ρ hx hy w => ex_indexE rfl hx hy Try.underlying26 sz_3 (by omega))) ?_
    refine JV (rv_sls (D := [(⟨some ⟨b6, o6, none⟩, g6.length, c6, g6⟩ : Dv Int)]) (⟨some ⟨b6, o6, none⟩, g6.length, c6, g6⟩ : Dv Int) rfl rfl ag_3 (by repeat constructor) (by simp) rfl (by omega) (by omega) rfl) ?_
    refine JL_op (wn0 rfl) (ow_callB (ec_fn rfl rfl cf_66) rfl rfl (fun w hw => row66 l (g6[k]'hlt) _ w (hrow.up ER hw.bel) hl hb)) (fun _ _ => ?_)
    refine JM rfl rfl rfl rfl rfl ?_
    refine JM rfl rfl rfl rfl rfl ?_
    refine JL_op (wn0 rfl) (ow_callB (ec_fn rfl rfl cf_66) rfl rfl (fun w hw => row66 l (bst l x0 (g6.take k)) _ w (hrow.up ER hw.bel) hl hb)) (fun _ _ => ?_)
    refine JL_op (wn0 rfl) (ow_callB (ec_fn rfl rfl cf_106) rfl rfl (fun w hw => (by have := (before106 (refRow l (g6[k]'hlt)) (refRow l (bst l x0 (g6.take k))) w (by have := refRow_b l (g6[k]'hlt) hb; omega) (by have := refRow_b l (bst l x0 (g6.take k)) hb; omega) (by have := refRow_b l (g6[k]'hlt) hb; omega) (by have := refRow_b l (bst l x0 (g6.take k)) hb; omega)); rw [show befB _ _ = _ from h34'] at this; exact this))) (fun _ _ => ?_)
    refine JL_nil ?_
    refine JQ_then_n ?_
    refine J_no rfl rfl ?_
    refine J_skip ?_
    refine JQ_block_n ?_
    refine JQ_then_n ?_
    refine J_keep (l' := [(0, _), (5, _), (6, _), (7, _), (8, _)]) ⟨rfl, rfl, rfl, rfl, rfl, trivial⟩ ?_
    refine J_reg ?_
    refine JM rfl rfl rfl rfl rfl ?_
    refine JP (rp2 rfl rfl (fun ρ hx hy w => ex_add rfl hx hy (by omega))) ?_
    refine JN rfl rfl rfl rfl rfl ?_
    refine JL_nil ?_
    have hsn := bst_snoc l x0 g6 k hlt
    rw [show bfR l (g6[k]'hlt) (bst l x0 (g6.take k)) = false from h34'] at hsn
    exact JQ_round (k + 1) (by omega) (by omega) ⟨rfl, rfl, rfl, (by rw [hsn]; rfl), (congrArg some (by go_num)), trivial⟩ (by repeat constructor)
  ·refine JL_nil ?_
   refine JQ_then_n ?_
   refine J_no rfl rfl ?_
   refine J_exit ?_
   refine JQ_then_x ?_
   refine JQ_then_x ?_
   refine JQ_block_y rfl ?_
   refine JQ_then_n ?_
   refine J_seq ?_
   have ek : k = g6.length := by omega
   subst ek
   rw [List.take_length]
   refine J_own0 3 1 ?_
   refine J_own0 3 1 ?_
   clear hk h22
   refine J_keep (l' := [(0, _), (5, _), (6, _), (7, _)]) ⟨rfl, rfl, rfl, rfl, trivial⟩ ?_
   refine J_reg ?_
   refine JN rfl rfl rfl rfl rfl ?_
   refine JN rfl rfl rfl rfl rfl ?_
   refine JL_nil ?_
   refine JQ_then_n ?_
   refine J_seq ?_
   refine J_seq ?_
   refine J_reg ?_
   refine JN rfl rfl rfl rfl rfl ?_
   refine JL_nil ?_
   refine JQ_then_n ?_
   refine J_block ?_
   refine J_loop (T := Nat × Option Addr × Nat × Option Addr × Nat) (fun q => q.1 ≤ g6.length) (fun q => [(0, .slice A l.length cap), (5, .slice A5 D.length c5), (6, .slice (some ⟨b6, o6, none⟩) g6.length c6), (7, .int .i64 (bst l x0 g6)), (9, .slice q.2.1 (bmO l (bst l x0 g6) (g6.take q.1)).length q.2.2.1), (10, .slice q.2.2.2.1 (bmN l (bst l x0 g6) (g6.take q.1)).length q.2.2.2.2), (11, .int .i64 (q.1 : Nat))]) (fun q => [ownB 3 1 q.2.1 (bmO l (bst l x0 g6) (g6.take q.1)).length q.2.2.1 ((bmO l (bst l x0 g6) (g6.take q.1)).flatMap eI), ownB 3 1 q.2.2.2.1 (bmN l (bst l x0 g6) (g6.take q.1)).length q.2.2.2.2 ((bmN l (bst l x0 g6) (g6.take q.1)).flatMap eI), ownB 26 1 A5 D.length c5 (D.flatMap eD), slsB 1 eI D, slsB 1 eI [(⟨some ⟨b6, o6, none⟩, g6.length, c6, g6⟩ : Dv Int)]]) (fun q => g6.length - q.1) (0, none, 0, none, 0) (Nat.zero_le _) ⟨rfl, rfl, rfl, rfl, rfl, rfl, rfl, trivial⟩ (by repeat constructor) ?_
   rintro ⟨k, A9, c9, A10, c10⟩ hk
   dsimp only at hk ⊢
   refine J_seq ?_
   refine J_seq ?_
   refine J_reg ?_
   refine JM rfl rfl rfl rfl rfl ?_
   refine JM rfl rfl rfl rfl rfl ?_
   refine JP (rp1 rfl (fun ρ hx w => ex_len (A := _) (c := _) rfl Try.underlying26 hx)) ?_
   refine JP (rp2 rfl rfl (fun ρ hx hy w => ex_lssD rfl hx hy)) ?_
   refine JL_dec (fun h42 => ?_) (fun h42 => ?_)
   ·refine JL_nil ?_
    refine JQ_then_n ?_
    refine J_yes rfl rfl ?_
    refine J_skip ?_
    refine JQ_then_n ?_
    refine J_seq ?_
    refine J_block ?_
    refine J_seq ?_
    have hlt : k < g6.length := by omega
    have hl1 := filter_len (p := fun x => !bfR l (bst l x0 g6) x) g6 k
    have hl2 := filter_len (p := fun x => bfR l (bst l x0 g6) x) g6 k
    have hl1' : (bmO l (bst l x0 g6) (g6.take k)).length ≤ g6.length := hl1
    have hl2' : (bmN l (bst l x0 g6) (g6.take k)).length ≤ g6.length := hl2
    have hbs : bfR l (bst l x0 g6) (g6[k]'hlt) = true ∨ bfR l (bst l x0 g6) (g6[k]'hlt) = false := by cases bfR l (bst l x0 g6) (g6[k]'hlt) <;> simp
    rcases hbs with h54' | h54'
    ·have hlt : k < g6.length := by omega
     refine J_keep (l' := [(0, _), (5, _), (6, _), (7, _), (9, _), (10, _), (11, _)]) ⟨rfl, rfl, rfl, rfl, rfl, rfl, rfl, trivial⟩ ?_
     refine J_draw [7] (by kernel_rfl) ?_
     refine JAP (i := 0) rfl (rp_move rfl rfl) ?_
     refine JAP (i := 1) rfl (rp_move rfl rfl) ?_
     refine JAP (i := 3) rfl (rp_move rfl rfl) ?_
     refine JAP (i := 4) rfl (rp_move rfl rfl) ?_
     refine JAP (i := 5) rfl (rp_move rfl rfl) ?_
     refine JAP (i := 6) rfl (rp2 rfl rfl (fun ρ hx hy w => ex_indexE rfl hx hy Try.underlying26 sz_3 (by omega))) ?_
     refine JAL (i := 7) rfl (rv_sls (D := [(⟨some ⟨b6, o6, none⟩, g6.length, c6, g6⟩ : Dv Int)]) (⟨some ⟨b6, o6, none⟩, g6.length, c6, g6⟩ : Dv Int) rfl rfl ag_3 (by repeat constructor) (by simp) rfl (by omega) (by omega) rfl) ?_
     refine JA_one (i := 2) (by kernel_rfl) rfl (wn0 rfl) (ow_callB (ec_fn rfl rfl cf_66) rfl rfl (fun w hw => row66 l (bst l x0 g6) _ w (hrow.up ER hw.bel) hl hb)) trivial (fun _ _ => ?_)
     refine JA_one (i := 8) (by kernel_rfl) rfl (wn0 rfl) (ow_callB (ec_fn rfl rfl cf_66) rfl rfl (fun w hw => row66 l (g6[k]'hlt) _ w (hrow.up ER hw.bel) hl hb)) trivial (fun _ _ => ?_)
     refine JA_one (i := 9) (by kernel_rfl) rfl (wn0 rfl) (ow_callB (ec_fn rfl rfl cf_106) rfl rfl (fun w hw => (by have := (before106 (refRow l (bst l x0 g6)) (refRow l (g6[k]'hlt)) w (by have := refRow_b l (bst l x0 g6) hb; omega) (by have := refRow_b l (g6[k]'hlt) hb; omega) (by have := refRow_b l (bst l x0 g6) hb; omega) (by have := refRow_b l (g6[k]'hlt) hb; omega)); rw [show befB _ _ = _ from h54'] at this; exact this))) trivial (fun _ _ => ?_)
     refine JA_done (by kernel_rfl) ?_
     refine JQ_then_n ?_
     refine J_yes rfl rfl ?_
     refine J_keep (l' := [(0, _), (5, _), (6, _), (7, _), (9, _), (10, _), (11, _)]) ⟨rfl, rfl, rfl, rfl, rfl, rfl, rfl, trivial⟩ ?_
     refine J_reg ?_
     refine JM rfl rfl rfl rfl rfl ?_
     refine JM rfl rfl rfl rfl rfl ?_
     refine JM rfl rfl rfl rfl rfl ?_
     refine JP (rp2 rfl rfl (fun ρ hx hy w => ex_indexE rfl hx hy Try.underlying26 sz_3 (by omega))) ?_
     refine JV (rv_sls (D := [(⟨some ⟨b6, o6, none⟩, g6.length, c6, g6⟩ : Dv Int)]) (⟨some ⟨b6, o6, none⟩, g6.length, c6, g6⟩ : Dv Int) rfl rfl ag_3 (by repeat constructor) (by simp) rfl (by omega) (by omega) rfl) ?_
     refine JL_op (wn0 rfl) (ow_sliceC (vs := [_]) (ty := 3) rfl rfl (by rfl) rfl rfl (fun _ => by kernel_rfl)) (fun b60 hb60 => ?_)
     refine JL_opS (wn0 rfl) (ow_app1 EI (by decide) (g6[k]'hlt) Try.underlying26 Try.info3 rfl (by decide) rfl rfl rfl rfl rfl (by repeat constructor) (by rfl) (by omega) (by intro A c; repeat constructor)) (fun A61 c61 => ?_)
     refine JN rfl rfl rfl rfl rfl ?_
     refine JL_nil ?_
     refine JQ_block_n ?_
     refine JQ_then_n ?_
     refine J_keep (l' := [(0, _), (5, _), (6, _), (7, _), (9, _), (10, _), (11, _)]) ⟨rfl, rfl, rfl, rfl, rfl, rfl, rfl, trivial⟩ ?_
     refine J_reg ?_
     refine JM rfl rfl rfl rfl rfl ?_
     refine JP (rp2 rfl rfl (fun ρ hx hy w => ex_add rfl hx hy (by omega))) ?_
     refine JN rfl rfl rfl rfl rfl ?_
     refine JL_nil ?_
     have hs1 := filter_snoc (p := fun x => !bfR l (bst l x0 g6) x) g6 k hlt
     have hs2 := filter_snoc (p := fun x => bfR l (bst l x0 g6) x) g6 k hlt
     rw [show bfR l (bst l x0 g6) (g6[k]'hlt) = true from h54'] at hs1 hs2
     have hs1' : bmO l (bst l x0 g6) (g6.take (k + 1)) = bmO l (bst l x0 g6) (g6.take k) := hs1
     have hs2' : bmN l (bst l x0 g6) (g6.take (k + 1)) = bmN l (bst l x0 g6) (g6.take k) ++ [g6[k]'hlt] := hs2
     exact JQ_round (k + 1, A9, c9, A61, c61) (by dsimp only; omega) (by dsimp only; omega) ⟨rfl, rfl, rfl, rfl, (by rw [hs1']; rfl), (by rw [hs2']; rfl), (congrArg some (by go_num)), trivial⟩ (by (try dsimp only); rw [hs1', hs2']; repeat (first | exact Pk.nil _ | (refine Pk.pick (by repeat (first | exact Rm.here _ | apply Rm.there)) ?_)))
    ·have hlt : k < g6.length := by omega
     refine J_keep (l' := [(0, _), (5, _), (6, _), (7, _), (9, _), (10, _), (11, _)]) ⟨rfl, rfl, rfl, rfl, rfl, rfl, rfl, trivial⟩ ?_
     refine J_draw [7] (by kernel_rfl) ?_
     refine JAP (i := 0) rfl (rp_move rfl rfl) ?_
     refine JAP (i := 1) rfl (rp_move rfl rfl) ?_
     refine JAP (i := 3) rfl (rp_move rfl rfl) ?_
     refine JAP (i := 4) rfl (rp_move rfl rfl) ?_
     refine JAP (i := 5) rfl (rp_move rfl rfl) ?_
     refine JAP (i := 6) rfl (rp2 rfl rfl (fun ρ hx hy w => ex_indexE rfl hx hy Try.underlying26 sz_3 (by omega))) ?_
     refine JAL (i := 7) rfl (rv_sls (D := [(⟨some ⟨b6, o6, none⟩, g6.length, c6, g6⟩ : Dv Int)]) (⟨some ⟨b6, o6, none⟩, g6.length, c6, g6⟩ : Dv Int) rfl rfl ag_3 (by repeat constructor) (by simp) rfl (by omega) (by omega) rfl) ?_
     refine JA_one (i := 2) (by kernel_rfl) rfl (wn0 rfl) (ow_callB (ec_fn rfl rfl cf_66) rfl rfl (fun w hw => row66 l (bst l x0 g6) _ w (hrow.up ER hw.bel) hl hb)) trivial (fun _ _ => ?_)
     refine JA_one (i := 8) (by kernel_rfl) rfl (wn0 rfl) (ow_callB (ec_fn rfl rfl cf_66) rfl rfl (fun w hw => row66 l (g6[k]'hlt) _ w (hrow.up ER hw.bel) hl hb)) trivial (fun _ _ => ?_)
     refine JA_one (i := 9) (by kernel_rfl) rfl (wn0 rfl) (ow_callB (ec_fn rfl rfl cf_106) rfl rfl (fun w hw => (by have := (before106 (refRow l (bst l x0 g6)) (refRow l (g6[k]'hlt)) w (by have := refRow_b l (bst l x0 g6) hb; omega) (by have := refRow_b l (g6[k]'hlt) hb; omega) (by have := refRow_b l (bst l x0 g6) hb; omega) (by have := refRow_b l (g6[k]'hlt) hb; omega)); rw [show befB _ _ = _ from h54'] at this; exact this))) trivial (fun _ _ => ?_)
     refine JA_done (by kernel_rfl) ?_
     refine JQ_then_n ?_
     refine J_no rfl rfl ?_
     refine J_keep (l' := [(0, _), (5, _), (6, _), (7, _), (9, _), (10, _), (11, _)]) ⟨rfl, rfl, rfl, rfl, rfl, rfl, rfl, trivial⟩ ?_
     refine J_reg ?_
     refine JM rfl rfl rfl rfl rfl ?_
     refine JM rfl rfl rfl rfl rfl ?_
     refine JM rfl rfl rfl rfl rfl ?_
     refine JP (rp2 rfl rfl (fun ρ hx hy w => ex_indexE rfl hx hy Try.underlying26 sz_3 (by omega))) ?_
     refine JV (rv_sls (D := [(⟨some ⟨b6, o6, none⟩, g6.length, c6, g6⟩ : Dv Int)]) (⟨some ⟨b6, o6, none⟩, g6.length, c6, g6⟩ : Dv Int) rfl rfl ag_3 (by repeat constructor) (by simp) rfl (by omega) (by omega) rfl) ?_
     refine JL_op (wn0 rfl) (ow_sliceC (vs := [_]) (ty := 3) rfl rfl (by rfl) rfl rfl (fun _ => by kernel_rfl)) (fun b67 hb67 => ?_)
     refine JL_opS (wn0 rfl) (ow_app1 EI (by decide) (g6[k]'hlt) Try.underlying26 Try.info3 rfl (by decide) rfl rfl rfl rfl rfl (by repeat constructor) (by rfl) (by omega) (by intro A c; repeat constructor)) (fun A68 c68 => ?_)
     refine JN rfl rfl rfl rfl rfl ?_
     refine JL_nil ?_
     refine JQ_block_n ?_
     refine JQ_then_n ?_
     refine J_keep (l' := [(0, _), (5, _), (6, _), (7, _), (9, _), (10, _), (11, _)]) ⟨rfl, rfl, rfl, rfl, rfl, rfl, rfl, trivial⟩ ?_
     refine J_reg ?_
     refine JM rfl rfl rfl rfl rfl ?_
     refine JP (rp2 rfl rfl (fun ρ hx hy w => ex_add rfl hx hy (by omega))) ?_
     refine JN rfl rfl rfl rfl rfl ?_
     refine JL_nil ?_
     have hs1 := filter_snoc (p := fun x => !bfR l (bst l x0 g6) x) g6 k hlt
     have hs2 := filter_snoc (p := fun x => bfR l (bst l x0 g6) x) g6 k hlt
     rw [show bfR l (bst l x0 g6) (g6[k]'hlt) = false from h54'] at hs1 hs2
     have hs1' : bmO l (bst l x0 g6) (g6.take (k + 1)) = bmO l (bst l x0 g6) (g6.take k) ++ [g6[k]'hlt] := hs1
     have hs2' : bmN l (bst l x0 g6) (g6.take (k + 1)) = bmN l (bst l x0 g6) (g6.take k) := hs2
     exact JQ_round (k + 1, A68, c68, A10, c10) (by dsimp only; omega) (by dsimp only; omega) ⟨rfl, rfl, rfl, rfl, (by rw [hs1']; rfl), (by rw [hs2']; rfl), (congrArg some (by go_num)), trivial⟩ (by (try dsimp only); rw [hs1', hs2']; repeat (first | exact Pk.nil _ | (refine Pk.pick (by repeat (first | exact Rm.here _ | apply Rm.there)) ?_)))
   ·refine JL_nil ?_
    refine JQ_then_n ?_
    refine J_no rfl rfl ?_
    refine J_exit ?_
    refine JQ_then_x ?_
    refine JQ_then_x ?_
    refine JQ_block_y rfl ?_
    refine JQ_then_n ?_
    refine J_seq ?_
    have ek : k = g6.length := by omega
    subst ek
    rw [List.take_length]
    refine J_fact (fun hf => ?_)
    have hnew : DvNew w (slsB 1 eI [⟨A1, g.length, cap1, g⟩]).foot [(⟨A9, (bmO l (bst l x0 g6) g6).length, c9, bmO l (bst l x0 g6) g6⟩ : Dv Int)] := own_new hf (List.Mem.head _)
    have hnew2 : DvNew w (slsB 1 eI [⟨A1, g.length, cap1, g⟩]).foot [(⟨A10, (bmN l (bst l x0 g6) g6).length, c10, bmN l (bst l x0 g6) g6⟩ : Dv Int)] := own_new hf (List.Mem.tail _ (List.Mem.head _))
    have hl1 := filter_len (p := fun x => !bfR l (bst l x0 g6) x) g6 g6.length
    have hl2 := filter_len (p := fun x => bfR l (bst l x0 g6) x) g6 g6.length
    rw [List.take_length] at hl1 hl2
    have hl1' : (bmO l (bst l x0 g6) g6).length ≤ g6.length := hl1
    have hl2' : (bmN l (bst l x0 g6) g6).length ≤ g6.length := hl2
    refine J_freeze EI (A := A9) (by repeat constructor) (by omega) ?_
    refine J_freeze EI (A := A10) (by repeat constructor) (by omega) ?_
    refine J_merge (D := D) (D' := [⟨A9, (bmO l (bst l x0 g6) g6).length, c9, bmO l (bst l x0 g6) g6⟩]) (by repeat (first | exact Rm.here _ | apply Rm.there)) (by repeat (first | exact Rm.here _ | apply Rm.there)) ?_
    refine J_keep (l' := [(0, _), (5, _), (9, _), (10, _)]) ⟨rfl, rfl, rfl, rfl, trivial⟩ ?_
    refine J_reg ?_
    refine JM rfl rfl rfl rfl rfl ?_
    refine JM rfl rfl rfl rfl rfl ?_
    refine JL_op (wn0 rfl) (ow_sliceC (vs := [_]) (ty := 26) rfl rfl (by rfl) rfl rfl (fun _ => by kernel_rfl)) (fun b71 hb71 => ?_)
    refine JL_opS (wn0 rfl) (ow_app1 ED (by decide) ((⟨A9, (bmO l (bst l x0 g6) g6).length, c9, bmO l (bst l x0 g6) g6⟩ : Dv Int)) Try.underlying113 Try.info26 rfl (by decide) rfl rfl rfl rfl rfl (by repeat constructor) (by rfl) (by omega) (by intro A c; repeat constructor)) (fun A72 c72 => ?_)
    refine JN rfl rfl rfl rfl rfl ?_
    refine JL_nil ?_
    refine JQ_then_n ?_
    refine J_keep (l' := [(0, _), (5, _), (10, _)]) ⟨rfl, rfl, rfl, trivial⟩ ?_
    refine J_reg ?_
    refine JM rfl rfl rfl rfl rfl ?_
    refine JN rfl rfl rfl rfl rfl ?_
    refine JL_nil ?_
    refine JQ_block_n ?_
    have hbm : bmF l f g6 = bmO l (bst l x0 g6) g6 :: bmF l (f - 1) (bmN l (bst l x0 g6) g6) := by
     obtain ⟨f', rfl⟩ : ∃ f', f = f' + 1 := ⟨f - 1, by omega⟩
     exact bmF_cons l f' g6 hpos x0 hx0'
    have hbmem : bst l x0 g6 ∈ g6 := by
     have := bst_mem l x0 g6 g6.length (Nat.le_refl _)
     rw [List.take_length] at this
     rcases this with h | h
     ·rw [h, ← hx0']; exact List.getElem_mem _
     ·exact h
    have hlt6 := bmN_lt l (bst l x0 g6) g6 hbmem
    exact JQ_round (f - 1, A72, c72, D ++ [⟨A9, (bmO l (bst l x0 g6) g6).length, c9, bmO l (bst l x0 g6) g6⟩], A10, c10, bmN l (bst l x0 g6) g6) ⟨by dsimp only; omega, by dsimp only; omega, by dsimp only; rw [List.map_append, List.append_assoc, ← hD, hbm]; rfl, hN.app hnew, by dsimp only; rw [List.length_append]; simp; omega, hnew2⟩ (by dsimp only; omega) ⟨rfl, rfl, rfl, trivial⟩ (by repeat constructor)
 ·refine JL_nil ?_
  refine JQ_then_n ?_
  refine J_no rfl rfl ?_
  refine J_exit ?_
  refine JQ_then_x ?_
  refine JQ_then_x ?_
  refine JQ_block_y rfl ?_
  refine JQ_then_n ?_
  refine J_seq ?_
  refine J_keep (l' := [(5, _)]) ⟨rfl, trivial⟩ ?_
  refine J_reg ?_
  refine JM rfl rfl rfl rfl rfl ?_
  refine JN rfl rfl rfl rfl rfl ?_
  refine JL_nil ?_
  refine JQ_then_n ?_
  refine J_ret ?_
  refine JR_one rfl (rr_tmp rfl) ?_
  intro w' hw
  have e : g6 = [] := List.length_eq_zero_iff.1 (by omega)
  subst e
  have hD' : D.map Dv.l = bmF l g.length g := by rw [← hD]; cases f <;> simp [bmF]
  exact ⟨A5, c5, D, hD', rfl, hw.pick (by repeat constructor), hN⟩
end Go.Proofs.Ytlfbbofcnonhdaa
