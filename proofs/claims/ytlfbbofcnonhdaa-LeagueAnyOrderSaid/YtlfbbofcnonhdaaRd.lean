import Derived.Test.YtlfbbofcnonhdaaRb
import Derived.Test.YtlfbbofcnonhdaaEq
/- Contracts of the document: apart. -/
namespace Go.Proofs.Ytlfbbofcnonhdaa
open Go Go.RowKit Go.Proofs

theorem ReB_am {l : List Re} (g : List Int) (h : ∀ x ∈ l, ReB x) : ∀ x ∈ amR l g, ReB x := fun x hx => h x (List.mem_filter.1 hx).1
theorem am_len (l : List Re) (g : List Int) : (amR l g).length ≤ l.length := List.length_filter_le _ _
/-- The parts have, together, the teams with so many wins. -/
theorem bwF_flat (l : List Re) (g : List Int) (hb : ∀ x ∈ l, ReB x) : ∀ j, j ≤ l.length + 1 → (bwF l g j).flatten.length = (g.filter fun t => decide ((l.length : Int) - j < (refRow l t).wins)).length
 | 0, _ => by
  have : (g.filter fun t => decide ((l.length : Int) - (0 : Nat) < (refRow l t).wins)) = [] := by
   rw [List.filter_eq_nil_iff]
   intro t _ h
   have h1 := (refRow_b l t hb).2.2
   have h2 := of_decide_eq_true h
   omega
  rw [this]; rfl
 | j + 1, hj => by
  rw [bwF_succ, List.flatten_append, List.length_append, bwF_flat l g hb j (by omega)]
  have e1 : (if bwO l g ((l.length : Int) - (j : Int)) = [] then [] else [bwO l g ((l.length : Int) - (j : Int))]).flatten = bwO l g ((l.length : Int) - (j : Int)) := by
   split
   ·rename_i h; rw [h]; rfl
   ·simp
  rw [e1]
  unfold bwO
  clear e1
  induction g with
  | nil => rfl
  | cons t g ih =>
   rw [List.filter_cons, List.filter_cons, List.filter_cons]
   by_cases h1 : (l.length : Int) - (j : Int) < (refRow l t).wins
   ·have h2 : ¬ (refRow l t).wins = (l.length : Int) - (j : Int) := by omega
    have h3 : (l.length : Int) - ((j + 1 : Nat) : Int) < (refRow l t).wins := by omega
    simp only [decide_eq_true h1, decide_eq_false h2, decide_eq_true h3, if_true, Bool.false_eq_true, if_false, List.length_cons]
    omega
   ·by_cases h2 : (refRow l t).wins = (l.length : Int) - (j : Int)
    ·have h3 : (l.length : Int) - ((j + 1 : Nat) : Int) < (refRow l t).wins := by omega
     simp only [decide_eq_false h1, decide_eq_true h2, decide_eq_true h3, if_true, Bool.false_eq_true, if_false, List.length_cons]
     omega
    ·have h3 : ¬ (l.length : Int) - ((j + 1 : Nat) : Int) < (refRow l t).wins := by omega
     simp only [decide_eq_false h1, decide_eq_false h2, decide_eq_false h3, Bool.false_eq_true, if_false]
     exact ih
theorem bwF_full (l : List Re) (g : List Int) (hb : ∀ x ∈ l, ReB x) : (bwF l g (l.length + 1)).flatten.length = g.length := by
 rw [bwF_flat l g hb _ (Nat.le_refl _)]
 rw [List.filter_eq_self.2]
 intro t _
 have := (refRow_b l t hb).2.2
 exact decide_eq_true (by omega)
theorem bwF_ne {l : List Re} {g : List Int} {j : Nat} {d : List Int} (h : d ∈ bwF l g j) : d ≠ [] := by
 intro e; subst e
 unfold bwF at h
 have := (List.mem_filter.1 h).2
 simp at this
theorem flat_part : ∀ {D : List (List Int)} {d : List Int}, (∀ e ∈ D, e ≠ []) → d ∈ D → D.length ≠ 1 → d.length < D.flatten.length
 | [e], d, _, h, hn => absurd rfl hn
 | e :: f :: D, d, hne, h, hn1 => by
  clear hn1
  rw [List.flatten_cons, List.flatten_cons, List.length_append, List.length_append]
  have he := List.length_pos_iff.2 (hne e (by simp))
  have hf := List.length_pos_iff.2 (hne f (by simp))
  rcases List.mem_cons.1 h with rfl | h
  ·omega
  ·rcases List.mem_cons.1 h with rfl | h
   ·omega
   ·have := flat_mem_len h
    omega
/-- Teams with the same wins that are told apart further. -/
def apF (l : List Re) : Nat → List Int → List (List Int)
 | 0, g => [g]
 | f + 1, g => if g.length < 2 then [g] else
  if ((amR l g).length : Int) ≠ ((g.length : Int) * ((g.length : Int) - 1)) / 2 ∨ (bwF (amR l g) g ((amR l g).length + 1)).length = 1 then bmF l g.length g else (bwF (amR l g) g ((amR l g).length + 1)).flatMap (apF l f)
theorem bmF_len (l : List Re) : ∀ (f : Nat) (g : List Int), (bmF l f g).length ≤ f
 | 0, _ => Nat.le_refl _
 | f + 1, [] => Nat.zero_le _
 | f + 1, b :: g => by
  show (bmF l f _).length + 1 ≤ f + 1
  have := bmF_len l f (bmN l (bst l b (b :: g)) (b :: g))
  omega
theorem apF_len (l : List Re) (hb : ∀ x ∈ l, ReB x) : ∀ (f : Nat) (g : List Int), g ≠ [] → (apF l f g).length ≤ g.length ∧ 1 ≤ (apF l f g).length
 | 0, g, h => by have h1 := List.length_pos_iff.2 h; exact ⟨by show 1 ≤ g.length; omega, Nat.le_refl _⟩
 | f + 1, g, h => by
  have h0 := List.length_pos_iff.2 h
  unfold apF
  split
  ·exact ⟨by show 1 ≤ g.length; omega, Nat.le_refl _⟩
  ·split
   ·refine ⟨bmF_len l _ g, ?_⟩
    obtain ⟨b, g', rfl⟩ : ∃ b g', g = b :: g' := by cases g with
     | nil => exact absurd rfl h
     | cons b g' => exact ⟨b, g', rfl⟩
    show 1 ≤ (bmF l _ _).length + 1
    omega
   ·have hfull := bwF_full (amR l g) g (ReB_am g hb)
    have hall : ∀ d ∈ bwF (amR l g) g ((amR l g).length + 1), (apF l f d).length ≤ d.length ∧ 1 ≤ (apF l f d).length := fun d hd => apF_len l hb f d (bwF_ne hd)
    generalize bwF (amR l g) g ((amR l g).length + 1) = D at hfull hall
    have hsum : ∀ D : List (List Int), (∀ d ∈ D, (apF l f d).length ≤ d.length ∧ 1 ≤ (apF l f d).length) → (D.flatMap (apF l f)).length ≤ D.flatten.length ∧ (D ≠ [] → 1 ≤ (D.flatMap (apF l f)).length) := by
     intro D hD
     induction D with
     | nil => exact ⟨Nat.le_refl _, fun h => absurd rfl h⟩
     | cons e D ih =>
      have h1 := hD e (by simp)
      have h2 := ih (fun d hd => hD d (by simp [hd]))
      rw [List.flatMap_cons, List.flatten_cons, List.length_append, List.length_append]
      exact ⟨by omega, fun _ => by omega⟩
    obtain ⟨h1, h2⟩ := hsum D hall
    exact ⟨by omega, h2 (by intro e; subst e; simp at hfull; omega)⟩
theorem flatTake_len (l : List Re) (hb : ∀ x ∈ l, ReB x) (f : Nat) : ∀ (D : List (List Int)) (i : Nat), (∀ d ∈ D, d ≠ []) → ((D.take i).flatMap (apF l f)).length ≤ D.flatten.length
 | [], i, _ => by simp
 | e :: D, 0, _ => by simp
 | e :: D, i + 1, h => by
  rw [List.take_succ_cons, List.flatMap_cons, List.flatten_cons, List.length_append, List.length_append]
  have h1 := (apF_len l hb f e (h e (by simp))).1
  have h2 := flatTake_len l hb f D i (fun d hd => h d (by simp [hd]))
  omega

set_option maxRecDepth 100000 in
set_option maxHeartbeats 4000000 in
theorem apart90 (l : List Re) (hl : l.length ≤ 300) (hb : ∀ x ∈ l, ReB x) : ∀ (f : Nat) (g : List Int) (A1 : Option Addr) (cap1 : Nat) (v : Value) (w : World) (_ : Arr 6 eR w v l) (_ : Arr 1 eI w (.slice A1 g.length cap1) g) (_ : g.length ≤ f) (_ : g.length ≤ 1000) (_ : g ≠ []), Calls Try.prog 90 #[v, .slice A1 g.length cap1] w (RetD 26 1 eI (slsB 1 eI [⟨A1, g.length, cap1, g⟩]).foot (apF l f g) w)
 | 0, g, _, _, _, _, _, _, h, _, hne => absurd (List.length_eq_zero_iff.1 (by omega)) hne
 | f + 1, g, A1, cap1, v, w, hrow, hg, hgf, hgl, hne => by
  obtain ⟨A, cap, rfl⟩ := hrow.form
  refine J_enter (fun _ => False) (vs := [.slice A l.length cap, .slice A1 g.length cap1]) (k := 51) (l := [(0, .slice A l.length cap), (1, .slice A1 g.length cap1)]) Try.func90 rfl rfl Try.ntmps90 rfl rfl (Wd.start _) ?_
  refine J_seq ?_
  refine J_reg ?_
  refine JN rfl rfl rfl rfl rfl ?_
  refine JL_nil ?_
  refine JQ_then_n ?_
  refine J_seq ?_
  refine J_seq ?_
  refine J_reg ?_
  refine JM rfl rfl rfl rfl rfl ?_
  refine JP (rp1 rfl (fun ρ hx w => ex_len (A := _) (c := _) rfl Try.underlying26 hx)) ?_
  refine JP (rp2 rfl rfl (fun ρ hx hy w => ex_lssD rfl hx hy)) ?_
  refine JL_dec (fun h11 => ?_) (fun h11 => ?_)
  ·refine JL_nil ?_
   refine JQ_then_n ?_
   refine J_yes rfl rfl ?_
   refine J_seq ?_
   refine J_keep (l' := [(1, _)]) ⟨rfl, trivial⟩ ?_
   refine J_reg ?_
   refine JM rfl rfl rfl rfl rfl ?_
   refine JL_op (wn0 rfl) (ow_sliceC (vs := [_]) (ty := 26) rfl rfl (by rfl) rfl rfl (fun _ => by kernel_rfl)) (fun b13 hb13 => ?_)
   refine JN rfl rfl rfl rfl rfl ?_
   refine JL_nil ?_
   refine JQ_then_n ?_
   refine J_ret ?_
   refine JQ_then_r ?_
   refine JR_one rfl (rr_tmp rfl) ?_
   intro w' hw
   have e : apF l (f + 1) g = [g] := by unfold apF; rw [if_pos (by omega)]
   rw [e]
   refine ⟨_, _, [⟨A1, g.length, cap1, g⟩], rfl, rfl, ?_, fun p hp hn b o e => .inr ⟨p, hp, hn, o, e⟩⟩
   exact (((hw.pick (H' := [cellB b13 [.slice A1 g.length cap1] 26]) (by repeat constructor)).asOwn (kk := 1) (m := 1) (At.here _) rfl (by omega)).given (by decide) EI (fun _ h => h) hg).pick (by repeat constructor)
  ·refine JL_nil ?_
   refine JQ_then_n ?_
   refine J_no rfl rfl ?_
   refine J_skip ?_
   refine JQ_then_n ?_
   refine J_seq ?_
   refine J_keep (l' := [(0, _), (1, _)]) ⟨rfl, rfl, trivial⟩ ?_
   refine J_reg ?_
   refine JM rfl rfl rfl rfl rfl ?_
   refine JM rfl rfl rfl rfl rfl ?_
   refine JL_opS (wn0 rfl) (ow_callS (ec_fn rfl rfl cf_98) rfl rfl (fun w hw => among98 l g _ _ w (hrow.up ER hw.bel) (hg.up EI hw.bel) hl hgl)) (fun A16 c16 => ?_)
   refine JN rfl rfl rfl rfl rfl ?_
   refine JL_nil ?_
   refine JQ_then_n ?_
   refine J_seq ?_
   refine J_freeze ER (A := A16) (by repeat constructor) (by have := am_len l g; omega) ?_
   refine J_reg ?_
   refine JM rfl rfl rfl rfl rfl ?_
   refine JM rfl rfl rfl rfl rfl ?_
   refine JL_op (wn0 rfl) (ow_callD (ec_fn rfl rfl cf_89) rfl rfl (fun _ => noOB) (fun w hw => byWins89 (amR l g) g _ _ w (sls_arr (D := [⟨A16, (amR l g).length, c16, amR l g⟩]) (p := ⟨A16, (amR l g).length, c16, amR l g⟩) hw (by repeat constructor) (by simp)) (hg.up EI hw.bel) (Nat.le_trans (am_len l g) hl) hgl (ReB_am g hb))) (fun t19 ht19 => ?_)
   obtain ⟨A19, c19, D19⟩ := t19
   obtain ⟨hD19, hN19⟩ := ht19
   dsimp only at hD19 hN19 ⊢
   refine JN rfl rfl rfl rfl rfl ?_
   refine JL_nil ?_
   refine JQ_then_n ?_
   refine J_seq ?_
   refine J_seq ?_
   have y1 : 0 ≤ (g.length : Int) * ((g.length : Int) - 1) ∧ (g.length : Int) * ((g.length : Int) - 1) ≤ 1000 * 1000 := ⟨Int.mul_nonneg (by omega) (by omega), Int.mul_le_mul (by omega) (by omega) (by omega) (by omega)⟩
   have hal0 := am_len l g
   refine J_keep (l' := [(0, _), (1, _), (5, _), (6, _)]) ⟨rfl, rfl, rfl, rfl, trivial⟩ ?_
   refine J_reg ?_
   refine JM rfl rfl rfl rfl rfl ?_
   refine JP (rp1 rfl (fun ρ hx w => ex_len (A := _) (c := _) rfl Try.underlying44 hx)) ?_
   refine JM rfl rfl rfl rfl rfl ?_
   refine JP (rp1 rfl (fun ρ hx w => ex_len (A := _) (c := _) rfl Try.underlying26 hx)) ?_
   refine JM rfl rfl rfl rfl rfl ?_
   refine JP (rp1 rfl (fun ρ hx w => ex_len (A := _) (c := _) rfl Try.underlying26 hx)) ?_
   refine JP (rp2 rfl rfl (fun ρ hx hy w => ex_sub rfl hx hy (by omega))) ?_
   refine JP (rp2 rfl rfl (fun ρ hx hy w => ex_mul rfl hx hy (by omega))) ?_
   refine JP (rp2 rfl rfl (fun ρ hx hy w => ex_quo rfl hx hy (by omega) (by omega))) ?_
   refine JP (rp2 rfl rfl (fun ρ hx hy w => ex_neqD rfl hx hy)) ?_
   refine JL_dec (fun h29 => ?_) (fun h29 => ?_)
   ·refine JM rfl rfl rfl rfl rfl ?_
    refine JF ?_
    refine JF ?_
    refine JF ?_
    refine JP (rp_pickT rfl rfl rfl) ?_
    refine JL_nil ?_
    refine JQ_then_n ?_
    refine J_yes rfl rfl ?_
    refine J_seq ?_
    refine J_given (by decide) EI (fun _ h => h) hg ?_
    refine J_keep (l' := [(0, _), (1, _)]) ⟨rfl, rfl, trivial⟩ ?_
    refine J_reg ?_
    refine JM rfl rfl rfl rfl rfl ?_
    refine JM rfl rfl rfl rfl rfl ?_
    refine JL_op (wn0 rfl) (ow_callD (ec_fn rfl rfl cf_99) rfl rfl (fun w hw => roOB (A := slsB 1 eI [⟨A1, g.length, cap1, g⟩]) (by repeat constructor) rfl hw) (fun w hw => byMeasures99 l g _ w A1 cap1 (hrow.up ER hw.bel) (hg.up EI hw.bel) hl hgl hb)) (fun t37 ht37 => ?_)
    obtain ⟨A37, c37, D37⟩ := t37
    obtain ⟨hD37, hN37⟩ := ht37
    dsimp only at hD37 hN37 ⊢
    refine JN rfl rfl rfl rfl rfl ?_
    refine JL_nil ?_
    refine JQ_then_n ?_
    refine J_ret ?_
    refine JQ_then_r ?_
    refine JR_one rfl (rr_tmp rfl) ?_
    intro w' hw
    have e : apF l (f + 1) g = bmF l g.length g := by unfold apF; rw [if_neg (by omega), if_pos (.inl h29)]
    rw [e]
    exact ⟨A37, c37, D37, hD37, rfl, hw.pick (by repeat constructor), hN37⟩
   ·refine JM rfl rfl rfl rfl rfl ?_
    refine JPg (rp_move rfl rfl) ?_
    refine JPg (rp1 rfl (fun ρ hx w => ex_len (A := _) (c := _) rfl Try.underlying113 hx)) ?_
    refine JPg (rp2 rfl rfl (fun ρ hx hy w => ex_eqlD rfl hx hy)) ?_
    refine JL_dec (fun h33 => ?_) (fun h33 => ?_)
    ·refine JP (rp_pickF rfl rfl rfl) ?_
     refine JL_nil ?_
     refine JQ_then_n ?_
     refine J_yes rfl rfl ?_
     refine J_seq ?_
     refine J_given (by decide) EI (fun _ h => h) hg ?_
     refine J_keep (l' := [(0, _), (1, _)]) ⟨rfl, rfl, trivial⟩ ?_
     refine J_reg ?_
     refine JM rfl rfl rfl rfl rfl ?_
     refine JM rfl rfl rfl rfl rfl ?_
     refine JL_op (wn0 rfl) (ow_callD (ec_fn rfl rfl cf_99) rfl rfl (fun w hw => roOB (A := slsB 1 eI [⟨A1, g.length, cap1, g⟩]) (by repeat constructor) rfl hw) (fun w hw => byMeasures99 l g _ w A1 cap1 (hrow.up ER hw.bel) (hg.up EI hw.bel) hl hgl hb)) (fun t37 ht37 => ?_)
     obtain ⟨A37, c37, D37⟩ := t37
     obtain ⟨hD37, hN37⟩ := ht37
     dsimp only at hD37 hN37 ⊢
     refine JN rfl rfl rfl rfl rfl ?_
     refine JL_nil ?_
     refine JQ_then_n ?_
     refine J_ret ?_
     refine JQ_then_r ?_
     refine JR_one rfl (rr_tmp rfl) ?_
     intro w' hw
     have e : apF l (f + 1) g = bmF l g.length g := by unfold apF; rw [if_neg (by omega), if_pos (.inr (by rw [← hD19, List.length_map]; omega))]
     rw [e]
     exact ⟨A37, c37, D37, hD37, rfl, hw.pick (by repeat constructor), hN37⟩
    ·refine JP (rp_pickF rfl rfl rfl) ?_
     refine JL_nil ?_
     refine JQ_then_n ?_
     refine J_no rfl rfl ?_
     refine J_skip ?_
     refine JQ_then_n ?_
     refine J_seq ?_
     refine J_own0 26 1 ?_
     refine J_sls0 1 eI ?_
     refine J_keep (l' := [(0, _), (6, _)]) ⟨rfl, rfl, trivial⟩ ?_
     refine J_reg ?_
     refine JN rfl rfl rfl rfl rfl ?_
     refine JL_nil ?_
     refine JQ_then_n ?_
     refine J_seq ?_
     refine J_seq ?_
     refine J_reg ?_
     refine JN rfl rfl rfl rfl rfl ?_
     refine JL_nil ?_
     refine JQ_then_n ?_
     refine J_block ?_
     refine J_loop (T := Nat × Option Addr × Nat × List (Dv Int)) (fun q => q.1 ≤ D19.length ∧ q.2.2.2.map Dv.l = ((bwF (amR l g) g ((amR l g).length + 1)).take q.1).flatMap (apF l f) ∧ DvNew w (slsB 1 eI [⟨A1, g.length, cap1, g⟩]).foot q.2.2.2) (fun q => [(0, .slice A l.length cap), (6, .slice A19 D19.length c19), (7, .slice q.2.1 q.2.2.2.length q.2.2.1), (8, .int .i64 (q.1 : Nat))]) (fun q => [ownB 26 1 q.2.1 q.2.2.2.length q.2.2.1 (q.2.2.2.flatMap eD), slsB 1 eI q.2.2.2, ownB 26 1 A19 D19.length c19 (D19.flatMap eD), slsB 1 eI D19]) (fun q => D19.length - q.1) (0, none, 0, []) ⟨Nat.zero_le _, rfl, DvNew.nil⟩ ⟨rfl, rfl, rfl, rfl, trivial⟩ (by repeat constructor) ?_
     rintro ⟨k, A7, c7, D7⟩ ⟨hk, hD7, hN7⟩
     dsimp only at hk hD7 hN7 ⊢
     refine J_seq ?_
     refine J_seq ?_
     refine J_reg ?_
     refine JM rfl rfl rfl rfl rfl ?_
     refine JM rfl rfl rfl rfl rfl ?_
     refine JP (rp1 rfl (fun ρ hx w => ex_len (A := _) (c := _) rfl Try.underlying113 hx)) ?_
     refine JP (rp2 rfl rfl (fun ρ hx hy w => ex_lssD rfl hx hy)) ?_
     refine JL_dec (fun h41 => ?_) (fun h41 => ?_)
     ·refine JL_nil ?_
      refine JQ_then_n ?_
      refine J_yes rfl rfl ?_
      refine J_skip ?_
      refine JQ_then_n ?_
      refine J_seq ?_
      refine J_block ?_
      have hlt : k < D19.length := by omega
      refine J_fact (fun hf => ?_)
      obtain ⟨b19, rfl⟩ := own_some (A := A19) hf (by repeat constructor) (by omega)
      obtain ⟨p, hp⟩ : ∃ p, D19[k]'hlt = p := ⟨_, rfl⟩
      have hpm : p ∈ D19 := by rw [← hp]; exact List.getElem_mem _
      obtain ⟨hpn, hpc, -, -⟩ := sls_len (D := D19) (p := p) hf (by repeat constructor) hpm
      have hpl : p.l ∈ bwF (amR l g) g ((amR l g).length + 1) := by rw [← hD19]; exact List.mem_map_of_mem hpm
      have hpne := bwF_ne hpl
      have hDl19 := bwF_len (amR l g) g ((amR l g).length + 1)
      rw [← hD19, List.length_map] at hDl19
      have haml := am_len l g
      have hkb : k < (bwF (amR l g) g ((amR l g).length + 1)).length := by rw [← hD19, List.length_map]; exact hlt
      have hgk : (bwF (amR l g) g ((amR l g).length + 1))[k]'hkb = p.l := by
       have : (D19.map Dv.l)[k]'(by rw [List.length_map]; exact hlt) = p.l := by rw [List.getElem_map, hp]
       simpa only [hD19] using this
      have hsn : ((bwF (amR l g) g ((amR l g).length + 1)).take (k + 1)).flatMap (apF l f) = ((bwF (amR l g) g ((amR l g).length + 1)).take k).flatMap (apF l f) ++ apF l f p.l := by
       rw [List.take_succ_eq_append_getElem hkb, List.flatMap_append, hgk]; simp
      have hlenp : p.l.length < g.length := by
       have h1 := flat_part (fun e he => bwF_ne he) hpl (by rw [← hD19, List.length_map]; omega)
       rw [bwF_full _ _ (ReB_am g hb)] at h1; exact h1
      have hfl := flatTake_len l hb f (bwF (amR l g) g ((amR l g).length + 1)) k (fun d hd => bwF_ne hd)
      rw [bwF_full _ _ (ReB_am g hb), ← hD7, List.length_map] at hfl
      have hal := apF_len l hb f p.l hpne
      have hop : DvNew w (slsB 1 eI [⟨A1, g.length, cap1, g⟩]).foot [p] := fun q hq hn b o e => by
       rw [List.mem_singleton.1 hq] at hn e
       exact (hN19 p hpm hn b o e).imp_right (fun h => h.elim)
      obtain ⟨pA, pn, pc, pl⟩ := p
      dsimp only at hpn hpc hpl hpne hgk hsn hlenp hal
      subst hpn
      refine J_keep (l' := [(0, _), (6, _), (7, _), (8, _)]) ⟨rfl, rfl, rfl, rfl, trivial⟩ ?_
      refine J_reg ?_
      refine JM rfl rfl rfl rfl rfl ?_
      refine JM rfl rfl rfl rfl rfl ?_
      refine JM rfl rfl rfl rfl rfl ?_
      refine JM rfl rfl rfl rfl rfl ?_
      refine JP (rp2 rfl rfl (fun ρ hx hy w => ex_indexE rfl hx hy Try.underlying113 sz_26 (by omega))) ?_
      refine JV (rv_ownE (L := D19) ED rfl rfl ag_26 (by repeat constructor) (by omega) (by omega) (by rw [hp]; rfl)) ?_
      refine JL_op (wn0 rfl) (ow_callD (ec_fn rfl rfl cf_90) rfl rfl (fun w hw C hC hr b hb => roOB (A := slsB 1 eI D19) (by repeat constructor) rfl hw C hC hr b (by obtain ⟨p, hp, hn, o, ho⟩ := hb; rw [List.mem_singleton.1 hp] at hn ho; exact ⟨_, hpm, hn, o, ho⟩)) (fun w hw => apart90 l hl hb f pl pA pc _ w (hrow.up ER hw.bel) (sls_arr (D := D19) hw (by repeat constructor) hpm) (by omega) (by omega) hpne)) (fun t50 ht50 => ?_)
      obtain ⟨A50, c50, D50⟩ := t50
      obtain ⟨hD50, hN50⟩ := ht50
      dsimp only at hD50 hN50 ⊢
      have hl50 : D50.length = (apF l f pl).length := by rw [← hD50, List.length_map]
      have hN50b : DvNew w (slsB 1 eI [⟨A1, g.length, cap1, g⟩]).foot D50 := fun q hq hn b o e => by
       rcases hN50 q hq hn b o e with h | ⟨q', hq', hn', o', e'⟩
       ·exact .inl h
       ·exact hop q' hq' hn' b o' e'
      refine JL_merge (D := D7) (D' := D50) (by repeat (first | exact Rm.here _ | apply Rm.there)) (by repeat (first | exact Rm.here _ | apply Rm.there)) ?_
      refine JL_fact (fun hf => ?_)
      obtain ⟨b50, rfl⟩ := own_some (A := A50) hf (by repeat constructor) (by omega)
      refine JL_opS (wn0 rfl) (ow_app (M := D50) ED (by decide) Try.underlying113 Try.info26 rfl (by decide) rfl rfl rfl rfl rfl rfl (fun w hw => news_own (ty := 26) (k := 1) (m := D50.length) (c := c50) (by repeat constructor) hw) (by omega) (by intro A c; repeat constructor)) (fun A51 c51 => ?_)
      refine JN rfl rfl rfl rfl rfl ?_
      refine JL_nil ?_
      refine JQ_block_n ?_
      refine JQ_then_n ?_
      refine J_keep (l' := [(0, _), (6, _), (7, _), (8, _)]) ⟨rfl, rfl, rfl, rfl, trivial⟩ ?_
      refine J_reg ?_
      refine JM rfl rfl rfl rfl rfl ?_
      refine JP (rp2 rfl rfl (fun ρ hx hy w => ex_add rfl hx hy (by omega))) ?_
      refine JN rfl rfl rfl rfl rfl ?_
      refine JL_nil ?_
      exact JQ_round (k + 1, A51, c51, D7 ++ D50) ⟨by dsimp only; omega, by dsimp only; rw [List.map_append, hD7, hD50, hsn], hN7.app hN50b⟩ (by dsimp only; omega) ⟨rfl, rfl, rfl, (congrArg some (by go_num)), trivial⟩ (by repeat constructor)
     ·refine JL_nil ?_
      refine JQ_then_n ?_
      refine J_no rfl rfl ?_
      refine J_exit ?_
      refine JQ_then_x ?_
      refine JQ_then_x ?_
      refine JQ_block_y rfl ?_
      refine JQ_then_n ?_
      refine J_seq ?_
      refine J_keep (l' := [(7, _)]) ⟨rfl, trivial⟩ ?_
      refine J_reg ?_
      refine JM rfl rfl rfl rfl rfl ?_
      refine JN rfl rfl rfl rfl rfl ?_
      refine JL_nil ?_
      refine JQ_then_n ?_
      refine J_ret ?_
      refine JR_one rfl (rr_tmp rfl) ?_
      intro w' hw
      have ek : k = D19.length := by omega
      subst ek
      have e : apF l (f + 1) g = D7.map Dv.l := by
       unfold apF
       rw [if_neg (by omega), if_neg (by intro h; rcases h with h | h; exact h29 h; rw [← hD19, List.length_map] at h; omega), hD7, List.take_of_length_le (by rw [← hD19, List.length_map]; exact Nat.le_refl _)]
      exact ⟨A7, c7, D7, e.symm, rfl, hw.pick (by repeat constructor), hN7⟩
end Go.Proofs.Ytlfbbofcnonhdaa

/- Contracts of the document: Order, Lowest, lists compared. -/
namespace Go.Proofs.Ytlfbbofcnonhdaa
open Go Go.RowKit Go.Proofs

def allT (T : Nat) : List Int := (List.range T).map fun t => ((t : Nat) : Int)
theorem allT_len (T : Nat) : (allT T).length = T := by simp [allT]
theorem allT_succ (T : Nat) : allT (T + 1) = allT T ++ [((T : Nat) : Int)] := by unfold allT; rw [List.range_succ, List.map_append]; rfl
/-- Teams by places. -/
def ordF (l : List Re) (T : Nat) : List (List Int) := (bwF l (allT T) (l.length + 1)).flatMap (apF l T)
theorem part_le {l : List Re} {g : List Int} {j : Nat} {d : List Int} (h : d ∈ bwF l g j) : d.length ≤ g.length := by
 unfold bwF at h
 obtain ⟨h1, -⟩ := List.mem_filter.1 h
 obtain ⟨i, -, rfl⟩ := List.mem_map.1 h1
 exact List.length_filter_le _ _
set_option maxRecDepth 100000 in
set_option maxHeartbeats 4000000 in
theorem Order65 (l : List Re) (T : Nat) (v : Value) (w : World) (hrow : Arr 6 eR w v l) (hl : l.length ≤ 300) (hT : T ≤ 16) (hb : ∀ x ∈ l, ReB x) : Calls Try.prog 65 #[.int .i64 (T : Nat), v] w (RetD 26 1 eI (fun _ => False) (ordF l T) w) := by
 obtain ⟨A, cap, rfl⟩ := hrow.form
 refine J_enter (fun _ => False) (vs := [.int .i64 (T : Nat), .slice A l.length cap]) (k := 35) (l := [(0, .int .i64 (T : Nat)), (1, .slice A l.length cap)]) Try.func65 rfl rfl Try.ntmps65 rfl rfl (Wd.start _) ?_
 refine J_seq ?_
 refine J_reg ?_
 refine JN rfl rfl rfl rfl rfl ?_
 refine JL_nil ?_
 refine JQ_then_n ?_
 refine J_seq ?_
 refine J_reg ?_
 refine JN rfl rfl rfl rfl rfl ?_
 refine JL_nil ?_
 refine JQ_then_n ?_
 refine J_seq ?_
 refine J_seq ?_
 refine J_own0 3 1 ?_
 refine J_reg ?_
 refine JN rfl rfl rfl rfl rfl ?_
 refine JL_nil ?_
 refine JQ_then_n ?_
 refine J_block ?_
 refine J_loop (T := Nat × Option Addr × Nat) (fun q => q.1 ≤ T) (fun q => [(0, .int .i64 (T : Nat)), (1, .slice A l.length cap), (5, .slice q.2.1 (allT q.1).length q.2.2), (6, .int .i64 (q.1 : Nat))]) (fun q => [ownB 3 1 q.2.1 (allT q.1).length q.2.2 ((allT q.1).flatMap eI)]) (fun q => T - q.1) (0, none, 0) (Nat.zero_le _) ⟨rfl, rfl, rfl, rfl, trivial⟩ (by repeat constructor) ?_
 rintro ⟨k, A5, c5⟩ hk
 dsimp only at hk ⊢
 refine J_seq ?_
 refine J_seq ?_
 refine J_reg ?_
 refine JM rfl rfl rfl rfl rfl ?_
 refine JM rfl rfl rfl rfl rfl ?_
 refine JP (rp2 rfl rfl (fun ρ hx hy w => ex_lssD rfl hx hy)) ?_
 refine JL_dec (fun h12 => ?_) (fun h12 => ?_)
 ·refine JL_nil ?_
  refine JQ_then_n ?_
  refine J_yes rfl rfl ?_
  refine J_skip ?_
  refine JQ_then_n ?_
  refine J_seq ?_
  refine J_block ?_
  have hal0 := allT_len k
  refine J_reg ?_
  refine JM rfl rfl rfl rfl rfl ?_
  refine JM rfl rfl rfl rfl rfl ?_
  refine JL_op (wn0 rfl) (ow_sliceC (vs := [_]) (ty := 3) rfl rfl (by rfl) rfl rfl (fun _ => by kernel_rfl)) (fun b17 hb17 => ?_)
  refine JL_opS (wn0 rfl) (ow_app1 EI (by decide) (((k : Nat) : Int)) Try.underlying26 Try.info3 rfl (by decide) rfl rfl rfl rfl rfl (by repeat constructor) (by rfl) (by omega) (by intro A c; repeat constructor)) (fun A18 c18 => ?_)
  refine JN rfl rfl rfl rfl rfl ?_
  refine JL_nil ?_
  refine JQ_block_n ?_
  refine JQ_then_n ?_
  refine J_keep (l' := [(0, _), (1, _), (5, _), (6, _)]) ⟨rfl, rfl, rfl, rfl, trivial⟩ ?_
  refine J_reg ?_
  refine JM rfl rfl rfl rfl rfl ?_
  refine JP (rp2 rfl rfl (fun ρ hx hy w => ex_add rfl hx hy (by omega))) ?_
  refine JN rfl rfl rfl rfl rfl ?_
  refine JL_nil ?_
  exact JQ_round (k + 1, A18, c18) (by dsimp only; omega) (by dsimp only; omega) ⟨rfl, rfl, (by rw [allT_succ]; rfl), (congrArg some (by go_num)), trivial⟩ (by (try dsimp only); rw [allT_succ]; repeat (first | exact Pk.nil _ | (refine Pk.pick (by repeat (first | exact Rm.here _ | apply Rm.there)) ?_)))
 ·refine JL_nil ?_
  refine JQ_then_n ?_
  refine J_no rfl rfl ?_
  refine J_exit ?_
  refine JQ_then_x ?_
  refine JQ_then_x ?_
  refine JQ_block_y rfl ?_
  refine JQ_then_n ?_
  refine J_seq ?_
  have ek : T = k := by omega
  subst ek
  have hal0 := allT_len T
  refine J_freeze EI (A := A5) (by repeat constructor) (by omega) ?_
  refine J_keep (l' := [(1, _), (5, _)]) ⟨rfl, rfl, trivial⟩ ?_
  refine J_reg ?_
  refine JM rfl rfl rfl rfl rfl ?_
  refine JM rfl rfl rfl rfl rfl ?_
  refine JL_op (wn0 rfl) (ow_callD (ec_fn rfl rfl cf_89) rfl rfl (fun _ => noOB) (fun w hw => byWins89 l (allT T) _ _ w (hrow.up ER hw.bel) (sls_arr (D := [⟨A5, (allT T).length, c5, allT T⟩]) (p := ⟨A5, (allT T).length, c5, allT T⟩) hw (by repeat constructor) (by simp)) hl (by omega) hb)) (fun t21 ht21 => ?_)
  obtain ⟨A21, c21, D21⟩ := t21
  obtain ⟨hD21, hN21⟩ := ht21
  dsimp only at hD21 hN21 ⊢
  refine JN rfl rfl rfl rfl rfl ?_
  refine JL_nil ?_
  refine JQ_then_n ?_
  refine J_seq ?_
  refine J_keep (l' := [(1, _), (7, _)]) ⟨rfl, rfl, trivial⟩ ?_
  refine J_reg ?_
  refine JN rfl rfl rfl rfl rfl ?_
  refine JL_nil ?_
  refine JQ_then_n ?_
  refine J_seq ?_
  refine J_seq ?_
  refine J_own0 26 1 ?_
  refine J_sls0 1 eI ?_
  refine J_reg ?_
  refine JN rfl rfl rfl rfl rfl ?_
  refine JL_nil ?_
  refine JQ_then_n ?_
  refine J_block ?_
  refine J_loop (T := Nat × Option Addr × Nat × List (Dv Int)) (fun q => q.1 ≤ D21.length ∧ q.2.2.2.map Dv.l = ((bwF l (allT T) (l.length + 1)).take q.1).flatMap (apF l T) ∧ DvNew w (fun _ => False) q.2.2.2) (fun q => [(1, .slice A l.length cap), (7, .slice A21 D21.length c21), (8, .slice q.2.1 q.2.2.2.length q.2.2.1), (9, .int .i64 (q.1 : Nat))]) (fun q => [ownB 26 1 q.2.1 q.2.2.2.length q.2.2.1 (q.2.2.2.flatMap eD), slsB 1 eI q.2.2.2, ownB 26 1 A21 D21.length c21 (D21.flatMap eD), slsB 1 eI D21]) (fun q => D21.length - q.1) (0, none, 0, []) ⟨Nat.zero_le _, rfl, DvNew.nil⟩ ⟨rfl, rfl, rfl, rfl, trivial⟩ (by repeat constructor) ?_
  rintro ⟨k, A7, c7, D7⟩ ⟨hk, hD7, hN7⟩
  dsimp only at hk hD7 hN7 ⊢
  refine J_seq ?_
  refine J_seq ?_
  refine J_reg ?_
  refine JM rfl rfl rfl rfl rfl ?_
  refine JM rfl rfl rfl rfl rfl ?_
  refine JP (rp1 rfl (fun ρ hx w => ex_len (A := _) (c := _) rfl Try.underlying113 hx)) ?_
  refine JP (rp2 rfl rfl (fun ρ hx hy w => ex_lssD rfl hx hy)) ?_
  refine JL_dec (fun h25 => ?_) (fun h25 => ?_)
  ·refine JL_nil ?_
   refine JQ_then_n ?_
   refine J_yes rfl rfl ?_
   refine J_skip ?_
   refine JQ_then_n ?_
   refine J_seq ?_
   refine J_block ?_
   have hlt : k < D21.length := by omega
   refine J_fact (fun hf => ?_)
   obtain ⟨b21, rfl⟩ := own_some (A := A21) hf (by repeat constructor) (by omega)
   obtain ⟨p, hp⟩ : ∃ p, D21[k]'hlt = p := ⟨_, rfl⟩
   have hpm : p ∈ D21 := by rw [← hp]; exact List.getElem_mem _
   obtain ⟨hpn, hpc, -, -⟩ := sls_len (D := D21) (p := p) hf (by repeat constructor) hpm
   have hpl : p.l ∈ bwF l (allT T) (l.length + 1) := by rw [← hD21]; exact List.mem_map_of_mem hpm
   have hpne := bwF_ne hpl
   have hple := part_le hpl
   rw [allT_len] at hple
   have hDl19 := bwF_len l (allT T) (l.length + 1)
   rw [← hD21, List.length_map] at hDl19
   have hkb : k < (bwF l (allT T) (l.length + 1)).length := by rw [← hD21, List.length_map]; exact hlt
   have hgk : (bwF l (allT T) (l.length + 1))[k]'hkb = p.l := by
    have : (D21.map Dv.l)[k]'(by rw [List.length_map]; exact hlt) = p.l := by rw [List.getElem_map, hp]
    simpa only [hD21] using this
   have hsn : ((bwF l (allT T) (l.length + 1)).take (k + 1)).flatMap (apF l T) = ((bwF l (allT T) (l.length + 1)).take k).flatMap (apF l T) ++ apF l T p.l := by
    rw [List.take_succ_eq_append_getElem hkb, List.flatMap_append, hgk]; simp
   have hfl := flatTake_len l hb T (bwF l (allT T) (l.length + 1)) k (fun d hd => bwF_ne hd)
   rw [bwF_full _ _ hb, allT_len, ← hD7, List.length_map] at hfl
   have hal := apF_len l hb T p.l hpne
   have hop : ∀ q ∈ [p], q.l ≠ [] → ∀ b o, q.A = some ⟨b, o, none⟩ → w.heap.size ≤ b := fun q hq hn b o e => by
    rw [List.mem_singleton.1 hq] at hn e
    exact (hN21 p hpm hn b o e).elim (fun h => h) (fun h => h.elim)
   obtain ⟨pA, pn, pc, pl⟩ := p
   dsimp only at hpn hpc hpl hpne hple hgk hsn hal
   subst hpn
   refine J_keep (l' := [(1, _), (7, _), (8, _), (9, _)]) ⟨rfl, rfl, rfl, rfl, trivial⟩ ?_
   refine J_reg ?_
   refine JM rfl rfl rfl rfl rfl ?_
   refine JM rfl rfl rfl rfl rfl ?_
   refine JM rfl rfl rfl rfl rfl ?_
   refine JM rfl rfl rfl rfl rfl ?_
   refine JP (rp2 rfl rfl (fun ρ hx hy w => ex_indexE rfl hx hy Try.underlying113 sz_26 (by omega))) ?_
   refine JV (rv_ownE (L := D21) ED rfl rfl ag_26 (by repeat constructor) (by omega) (by omega) (by rw [hp]; rfl)) ?_
   refine JL_op (wn0 rfl) (ow_callD (ec_fn rfl rfl cf_90) rfl rfl (fun w hw C hC hr b hb => roOB (A := slsB 1 eI D21) (by repeat constructor) rfl hw C hC hr b (by obtain ⟨p, hp, hn, o, ho⟩ := hb; rw [List.mem_singleton.1 hp] at hn ho; exact ⟨_, hpm, hn, o, ho⟩)) (fun w hw => apart90 l hl hb T pl pA pc _ w (hrow.up ER hw.bel) (sls_arr (D := D21) hw (by repeat constructor) hpm) (by omega) (by omega) hpne)) (fun t34 ht34 => ?_)
   obtain ⟨A34, c34, D34⟩ := t34
   obtain ⟨hD34, hN34⟩ := ht34
   dsimp only at hD34 hN34 ⊢
   have hl34 : D34.length = (apF l T pl).length := by rw [← hD34, List.length_map]
   have hN34b : DvNew w (fun _ => False) D34 := fun q hq hn b o e => by
    rcases hN34 q hq hn b o e with h | ⟨q', hq', hn', o', e'⟩
    ·exact .inl h
    ·exact .inl (hop q' hq' hn' b o' e')
   refine JL_merge (D := D7) (D' := D34) (by repeat (first | exact Rm.here _ | apply Rm.there)) (by repeat (first | exact Rm.here _ | apply Rm.there)) ?_
   refine JL_fact (fun hf => ?_)
   obtain ⟨b34, rfl⟩ := own_some (A := A34) hf (by repeat constructor) (by omega)
   refine JL_opS (wn0 rfl) (ow_app (M := D34) ED (by decide) Try.underlying113 Try.info26 rfl (by decide) rfl rfl rfl rfl rfl rfl (fun w hw => news_own (ty := 26) (k := 1) (m := D34.length) (c := c34) (by repeat constructor) hw) (by omega) (by intro A c; repeat constructor)) (fun A35 c35 => ?_)
   refine JN rfl rfl rfl rfl rfl ?_
   refine JL_nil ?_
   refine JQ_block_n ?_
   refine JQ_then_n ?_
   refine J_keep (l' := [(1, _), (7, _), (8, _), (9, _)]) ⟨rfl, rfl, rfl, rfl, trivial⟩ ?_
   refine J_reg ?_
   refine JM rfl rfl rfl rfl rfl ?_
   refine JP (rp2 rfl rfl (fun ρ hx hy w => ex_add rfl hx hy (by omega))) ?_
   refine JN rfl rfl rfl rfl rfl ?_
   refine JL_nil ?_
   exact JQ_round (k + 1, A35, c35, D7 ++ D34) ⟨by dsimp only; omega, by dsimp only; rw [List.map_append, hD7, hD34, hsn], hN7.app hN34b⟩ (by dsimp only; omega) ⟨rfl, rfl, rfl, (congrArg some (by go_num)), trivial⟩ (by repeat constructor)
  ·refine JL_nil ?_
   refine JQ_then_n ?_
   refine J_no rfl rfl ?_
   refine J_exit ?_
   refine JQ_then_x ?_
   refine JQ_then_x ?_
   refine JQ_block_y rfl ?_
   refine JQ_then_n ?_
   refine J_seq ?_
   refine J_keep (l' := [(8, _)]) ⟨rfl, trivial⟩ ?_
   refine J_reg ?_
   refine JM rfl rfl rfl rfl rfl ?_
   refine JN rfl rfl rfl rfl rfl ?_
   refine JL_nil ?_
   refine JQ_then_n ?_
   refine J_ret ?_
   refine JR_one rfl (rr_tmp rfl) ?_
   intro w' hw
   have ek : k = D21.length := by omega
   subst ek
   have e : ordF l T = D7.map Dv.l := by
    unfold ordF
    rw [hD7, List.take_of_length_le (by rw [← hD21, List.length_map]; exact Nat.le_refl _)]
   exact ⟨A7, c7, D7, e.symm, rfl, hw.pick (by repeat constructor), hN7⟩
theorem gcd_step (x y : Int) (hx : 0 ≤ x) (hy : 0 < y) : Int.gcd y (x % y) = Int.gcd x y := by
 obtain ⟨a, rfl⟩ := Int.eq_ofNat_of_zero_le hx
 obtain ⟨b, rfl⟩ := Int.eq_ofNat_of_zero_le (Int.le_of_lt hy)
 rw [← Int.natCast_emod, Int.gcd_natCast_natCast, Int.gcd_natCast_natCast, Nat.gcd_comm, ← Nat.gcd_rec, Nat.gcd_comm]
set_option maxRecDepth 100000 in
set_option maxHeartbeats 4000000 in
theorem Lowest33 (a b : Int) (w : World) (ha : 0 ≤ a ∧ a ≤ 1000000000000) (hb : 0 < b ∧ b ≤ 1000000000000) : Calls Try.prog 33 #[.int .i64 a, .int .i64 b] w (Back (Pv (a / (Int.gcd a b : Nat)) (b / (Int.gcd a b : Nat))) w) := by
 refine J_enter (fun _ => False) (vs := [.int .i64 a, .int .i64 b]) (k := 20) (l := [(0, .int .i64 a), (1, .int .i64 b)]) Try.func33 rfl rfl Try.ntmps33 rfl rfl (Wd.start _) ?_
 refine J_seq ?_
 refine J_reg ?_
 refine JL_op (wn0 rfl) (ow_alloc rfl rfl zv_42 rfl rfl) (fun b4 hb4 => ?_)
 refine JL_nil ?_
 refine JQ_then_n ?_
 refine J_seq ?_
 refine J_reg ?_
 refine JM rfl rfl rfl rfl rfl ?_
 refine JM rfl rfl rfl rfl rfl ?_
 refine JN rfl rfl rfl rfl rfl ?_
 refine JN rfl rfl rfl rfl rfl ?_
 refine JL_nil ?_
 refine JQ_then_n ?_
 refine J_seq ?_
 refine J_block ?_
 refine J_loop (T := Int × Int) (fun q => 0 ≤ q.1 ∧ 0 ≤ q.2 ∧ q.1 ≤ 1000000000000 ∧ q.2 ≤ 1000000000000 ∧ Int.gcd q.1 q.2 = Int.gcd a b) (fun q => [(0, .int .i64 a), (1, .int .i64 b), (4, .pointer (some ⟨b4, 0, none⟩)), (5, .int .i64 q.1), (6, .int .i64 q.2)]) (fun q => [cellB b4 [.int .i64 0, .int .i64 0] 42]) (fun q => q.2.toNat) (a, b) ⟨ha.1, by dsimp only; omega, ha.2, hb.2, rfl⟩ ⟨rfl, rfl, rfl, rfl, rfl, trivial⟩ (by repeat constructor) ?_
 rintro ⟨x, y⟩ ⟨hx, hy, hx2, hy2, hg⟩
 dsimp only at hx hy hx2 hy2 hg ⊢
 refine J_seq ?_
 refine J_seq ?_
 refine J_reg ?_
 refine JM rfl rfl rfl rfl rfl ?_
 refine JP (rp2 rfl rfl (fun ρ hx hy w => ex_gtrD rfl hx hy)) ?_
 refine JL_dec (fun h10 => ?_) (fun h10 => ?_)
 ·refine JL_nil ?_
  refine JQ_then_n ?_
  refine J_yes rfl rfl ?_
  refine J_skip ?_
  refine JQ_then_n ?_
  refine J_block ?_
  refine J_draw [] (by kernel_rfl) ?_
  refine JAP (i := 0) rfl (rp_move rfl rfl) ?_
  refine JAP (i := 1) rfl (rp_move rfl rfl) ?_
  refine JAP (i := 2) rfl (rp_move rfl rfl) ?_
  refine JAP (i := 3) rfl (rp2 rfl rfl (fun ρ hx hy w => ex_rem rfl hx hy (by omega) (by omega))) ?_
  refine JAP (i := 4) rfl (rp_assign rfl rfl) ?_
  refine JAP (i := 5) rfl (rp_assign rfl rfl) ?_
  refine JA_done (by kernel_rfl) ?_
  refine JQ_block_n ?_
  have h1 := Int.emod_nonneg x (show y ≠ 0 by omega)
  have h2 := Int.emod_lt_of_pos x (show 0 < y by omega)
  exact JQ_round (y, x % y) ⟨hy, h1, hy2, by dsimp only; omega, by dsimp only; rw [← hg, gcd_step x y hx (by omega)]⟩ (by dsimp only; omega) ⟨rfl, rfl, rfl, rfl, rfl, trivial⟩ (by repeat constructor)
 ·refine JL_nil ?_
  refine JQ_then_n ?_
  refine J_no rfl rfl ?_
  refine J_exit ?_
  refine JQ_then_x ?_
  refine JQ_then_x ?_
  refine JQ_block_y rfl ?_
  refine JQ_then_n ?_
  refine J_seq ?_
  have hy0 : y = 0 := by omega
  subst hy0
  have hg2 : ((Int.gcd a b : Nat) : Int) = x := by rw [← hg, Int.gcd_zero_right]; omega
  have hxp : 0 < x := by
   rcases Int.lt_or_eq_of_le hx with h | h
   ·exact h
   ·exfalso
    rw [← h] at hg2
    have := Int.gcd_eq_zero_iff.1 (show Int.gcd a b = 0 by omega)
    omega
  refine J_draw [] (by kernel_rfl) ?_
  refine JAP (i := 0) rfl (rp_move rfl rfl) ?_
  refine JAP (i := 1) rfl (rp_move rfl rfl) ?_
  refine JAP (i := 2) rfl (rp2 rfl rfl (fun ρ hx hy w => ex_quo rfl hx hy (by omega) (by omega))) ?_
  refine JAP (i := 3) rfl (rp_move rfl rfl) ?_
  refine JAP (i := 4) rfl (rp_move rfl rfl) ?_
  refine JAP (i := 5) rfl (rp2 rfl rfl (fun ρ hx hy w => ex_quo rfl hx hy (by omega) (by omega))) ?_
  refine JAP (i := 6) rfl (rp_buildC (fun us => [us.getD 0 undef, us.getD 1 undef]) rfl rfl (fun w => by kernel_rfl)) ?_
  refine JA_one (i := 7) (by kernel_rfl) rfl (wn0 rfl) (ow_store (cs := [_, _]) (vs' := [_, _]) rfl rfl rfl rfl rfl sz_42 rfl (by repeat constructor) (by rfl) (by rfl)) ⟨by kernel_rfl, .inl (by kernel_rfl)⟩ (fun _ _ => ?_)
  refine JA_done (by kernel_rfl) ?_
  refine JQ_then_n ?_
  refine J_ret ?_
  refine JR_one rfl (rr_agg (cs := [_, _]) rfl ag_42 sz_42 (by repeat constructor) (by rfl)) ?_
  intro w' hw
  exact ⟨by rw [hg2]; rfl, hw.bel⟩
end Go.Proofs.Ytlfbbofcnonhdaa
