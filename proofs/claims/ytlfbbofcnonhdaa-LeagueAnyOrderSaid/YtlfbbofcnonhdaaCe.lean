/- Contracts of brackets: maps.Clone, Ready. -/
import Derived.Test.YtlfbbofcnonhdaaEc
import Derived.Test.YtlfbbofcnonhdaaBj
namespace Go.Proofs.Ytlfbbofcnonhdaa
open Go Go.RowKit Go.Proofs

/-- Can a game be played? -/
def rdB (m : Int → Option Int) (f : Int × Int → Option Int) (G : List Gm) (i : Nat) : Bool := (m (i : Nat)).isNone && decide (0 ≤ atM f (G.getD i ((0, 0), (0, 0))).1) && decide (0 ≤ atM f (G.getD i ((0, 0), (0, 0))).2)
/-- The games that can be played. -/
def rdL (m : Int → Option Int) (f : Int × Int → Option Int) (G : List Gm) (k : Nat) : List Int := ((List.range k).filter (rdB m f G)).map fun i => ((i : Nat) : Int)
theorem rdL_succ (m : Int → Option Int) (f : Int × Int → Option Int) (G : List Gm) (k : Nat) : rdL m f G (k + 1) = if rdB m f G k then rdL m f G k ++ [((k : Nat) : Int)] else rdL m f G k := by
  unfold rdL
  rw [List.range_succ, List.filter_append, List.map_append]
  cases h : rdB m f G k <;> simp [h]
theorem rdL_len (m : Int → Option Int) (f : Int × Int → Option Int) (G : List Gm) (k : Nat) : (rdL m f G k).length ≤ k := by
  unfold rdL
  rw [List.length_map]
  exact Nat.le_trans (List.length_filter_le _ _) (by rw [List.length_range]; exact Nat.le_refl _)
set_option maxRecDepth 100000 in
set_option maxHeartbeats 4000000 in
theorem Clone76 (bm k : Nat) (f : Int → Option Int) (w : World) (hm : (resB bm k f).holds w) : Calls Try.prog 76 #[.map (some bm)] w (Ret w (fun _ : Nat => True) (fun b => .map (some b)) (fun b => [resB b k f])) := by
 refine J_enter (fun _ => False) (vs := [.map (some bm)]) (k := 8) (l := [(0, .map (some bm))]) Try.func76 rfl rfl Try.ntmps76 rfl rfl (Wd.start _) ?_
 refine J_seq ?_
 refine J_reg ?_
 refine JN rfl rfl rfl rfl rfl ?_
 refine JL_nil ?_
 refine JQ_then_n ?_
 refine J_seq ?_
 refine J_seq ?_
 refine J_reg ?_
 refine JM rfl rfl rfl rfl rfl ?_
 refine JP (rp2 rfl rfl (fun ρ hx hy w => ex_eqlMap rfl hx hy)) ?_
 refine JL_boolF rfl ?_
 refine JL_nil ?_
 refine JQ_then_n ?_
 refine J_no rfl rfl ?_
 refine J_skip ?_
 refine JQ_then_n ?_
 refine J_seq ?_
 refine J_reg ?_
 refine JM rfl rfl rfl rfl rfl ?_
 refine JP (rp1 rfl (fun ρ hx w => ex_iface rfl hx)) ?_
 refine JL_op (wn0 rfl) (ow_clone (k := k) (f := f) rfl rfl rfl rfl (fun w hw => (resB bm k f).st _ _ (fun b hb => hw.bel.block b (by cases hb; exact resB_lt hm)) hm)) (fun b7 hb7 => ?_)
 refine JP (rp1 rfl (fun ρ hx w => ex_assert rfl hx)) ?_
 refine JN rfl rfl rfl rfl rfl ?_
 refine JL_nil ?_
 refine JQ_then_n ?_
 refine J_ret ?_
 refine JR_one rfl (rr_tmp rfl) ?_
 intro w' hw
 exact ⟨b7, trivial, rfl, hw.pick (by repeat constructor)⟩
set_option maxRecDepth 100000 in
set_option maxHeartbeats 4000000 in
theorem Ready40 (T : Nat) (G : List Gm) (R : List (Int × Int)) (m : Int → Option Int) (w : World) (bp bm cap cap2 k : Nat) (A A2 : Option Addr) (hp : PdF (T : Nat) G R w bp bm cap cap2 A A2) (hm : (resB bm k m).holds w) (hT : T ≤ 16) (hGl : G.length ≤ 64) (hG2 : ∀ g ∈ G, W2 g.1 ∧ W2 g.2) (hmv : ∀ i r, m i = some r → r = 0 ∨ r = 1) : Calls Try.prog 40 #[.pointer (some ⟨bp, 0, none⟩)] w (RetS 3 1 eI (rdL m (tmM m T G G.length) G G.length) w) := by
 obtain ⟨Ag, cg, eg, -, -, hA⟩ := id hp.hG
 injection eg with e1 e2 e3
 subst e1 e3
 refine J_enter (fun _ => False) (vs := [.pointer (some ⟨bp, 0, none⟩)]) (k := 58) (l := [(0, .pointer (some ⟨bp, 0, none⟩))]) Try.func40 rfl rfl Try.ntmps40 rfl rfl (Wd.start _) ?_
 refine J_seq ?_
 refine J_reg ?_
 refine JN rfl rfl rfl rfl rfl ?_
 refine JL_nil ?_
 refine JQ_then_n ?_
 refine J_seq ?_
 refine J_seq ?_
 refine J_reg ?_
 refine JM rfl rfl rfl rfl rfl ?_
 refine JL_op (wn0 rfl) (ow_callB (ec_fn rfl rfl cf_73) rfl rfl (fun w hw => is73 (T : Nat) G R w bp bm cap cap2 _ A2 (hp.up hw.bel))) (fun _ _ => ?_)
 refine JP (rp1 rfl (fun ρ hx w => ex_not rfl hx)) ?_
 refine JL_nil ?_
 refine JQ_then_n ?_
 refine J_no rfl rfl ?_
 refine J_skip ?_
 refine JQ_then_n ?_
 refine J_seq ?_
 refine J_keep (l' := [(0, _)]) ⟨rfl, trivial⟩ ?_
 refine J_reg ?_
 refine JM rfl rfl rfl rfl rfl ?_
 refine JP (rp_nil rfl rfl) ?_
 refine JP (rp_fieldC (off' := 3) rfl rfl fa_86_1 rfl) ?_
 refine JV (rv_old rfl rfl ag_66 (fun h => h) hp.c3) ?_
 refine JL_op (wn0 rfl) (ow_callR (ec_fn rfl rfl cf_76) rfl rfl (fun _ => rfl) (fun w hw => Clone76 bm k m w ((resB bm k m).st _ _ (fun b hb => hw.bel.block b (by cases hb; exact resB_lt hm)) hm))) (fun t17 _ => ?_)
 refine JM rfl rfl rfl rfl rfl ?_
 refine JL_op (wn0 rfl) (ow_callR (ec_fn rfl rfl cf_74) rfl rfl (fun _ => rfl) (fun w hw => by obtain ⟨n0, c0, -, hmp⟩ := hm; exact teams74 T G R m w bp bm cap cap2 n0 c0 _ A2 (hp.up hw.bel) (hmp.up hw.bel) hT hGl hG2 hmv)) (fun t19 ht19 => ?_)
 refine JN rfl rfl rfl rfl rfl ?_
 refine JN rfl rfl rfl rfl rfl ?_
 refine JL_nil ?_
 refine JQ_then_n ?_
 refine J_seq ?_
 refine J_own0 3 1 ?_
 refine J_keep (l' := [(0, _), (3, _), (4, _)]) ⟨rfl, rfl, rfl, trivial⟩ ?_
 refine J_reg ?_
 refine JN rfl rfl rfl rfl rfl ?_
 refine JL_nil ?_
 refine JQ_then_n ?_
 refine J_seq ?_
 refine J_seq ?_
 refine J_reg ?_
 refine JM rfl rfl rfl rfl rfl ?_
 refine JP (rp_nil rfl rfl) ?_
 refine JP (rp_fieldC (off' := 0) rfl rfl fa_86_0 rfl) ?_
 refine JP (rp_fieldC (off' := 1) rfl rfl fa_25_1 rfl) ?_
 refine JV (rv_old rfl rfl ag_22 (fun h => h) hp.c1) ?_
 refine JP (rp1 rfl (fun ρ hx w => ex_len (A := _) (c := _) rfl Try.underlying22 hx)) ?_
 refine JM rfl rfl rfl rfl rfl ?_
 refine JL_nil ?_
 refine JQ_then_n ?_
 refine J_block ?_
 refine J_loop (T := Nat × Option Addr × Nat) (fun q => q.1 ≤ G.length) (fun q => [(3, .map (some t17)), (4, .map (some t19.1)), (5, .slice q.2.1 (rdL m (tmM m T G G.length) G q.1).length q.2.2), (24, .slice A G.length cap), (25, .int .i64 (G.length : Nat)), (26, .int .i64 (q.1 : Nat))]) (fun q => [ownB 3 1 q.2.1 (rdL m (tmM m T G G.length) G q.1).length q.2.2 ((rdL m (tmM m T G G.length) G q.1).flatMap eI), resB t17 k m, mapB 89 3 kP W2 dI t19.1 t19.2.1 t19.2.2 (tmM m T G G.length)]) (fun q => G.length - q.1) (0, none, 0) (Nat.zero_le _) ⟨rfl, rfl, rfl, rfl, rfl, rfl, trivial⟩ (by repeat constructor) ?_
 rintro ⟨i, A5, c5⟩ hi
 dsimp only at hi ⊢
 refine J_seq ?_
 refine J_reg ?_
 refine JP (rp2 rfl rfl (fun ρ hx hy w => ex_lssD rfl hx hy)) ?_
 refine JL_dec (fun h27 => ?_) (fun h27 => ?_)
 ·refine JL_nil ?_
  refine JQ_then_n ?_
  refine J_seq ?_
  refine J_yes rfl rfl ?_
  refine J_skip ?_
  refine JQ_then_n ?_
  refine J_seq ?_
  refine J_block ?_
  refine J_seq ?_
  have hlt : i < G.length := by omega
  obtain ⟨b, p, rfl, hh⟩ := hA (by intro e; subst e; simp at hlt)
  obtain ⟨g, hg⟩ : ∃ g, G[i]'hlt = g := ⟨_, rfl⟩
  have hgw := hG2 _ (List.getElem_mem hlt)
  have hgd : G.getD i ((0, 0), (0, 0)) = g := by rw [List.getD_eq_getElem?_getD, List.getElem?_eq_getElem hlt]; exact hg
  rw [hg] at hgw
  have hrl := rdL_len m (tmM m T G G.length) G i
  refine J_reg ?_
  refine JM rfl rfl rfl rfl rfl ?_
  refine JP (rp2 rfl rfl (fun ρ hx hy w => ex_indexI (k := i) rfl hx hy rfl Try.underlying22 sz_90 (by omega))) ?_
  refine JV (rv_holdagg (cs := [.int .i64 g.1.1, .int .i64 g.1.2, .int .i64 g.2.1, .int .i64 g.2.2]) EG rfl rfl ag_90 sz_90 (fun h => h) hh (by omega) (by rw [hg]; rfl)) ?_
  refine JL_op (wn0 rfl) (ow_alloc rfl rfl zv_90 rfl rfl) (fun b7 hb7 => ?_)
  refine JN rfl rfl rfl rfl rfl ?_
  refine JL_op (wn0 rfl) (ow_store (cs := [_, _, _, _]) (vs' := [_, _, _, _]) rfl rfl rfl rfl rfl sz_90 rfl (by repeat constructor) (by rfl) (by rfl)) (fun _ _ => ?_)
  refine JL_nil ?_
  refine JQ_then_n ?_
  refine J_seq ?_
  rcases hmi : m ((i : Nat) : Int) with _ | v
  ·refine J_keep (l' := [(3, _), (4, _), (5, _), (6, _), (7, _), (24, _), (25, _), (26, _)]) ⟨rfl, rfl, rfl, rfl, rfl, rfl, rfl, rfl, trivial⟩ ?_
   refine J_reg ?_
   refine JM rfl rfl rfl rfl rfl ?_
   refine JM rfl rfl rfl rfl rfl ?_
   refine JV (rv_lookR (k := k) (f := m) rfl rfl rfl (by repeat constructor) (by unfold W64; omega) hmi) ?_
   refine JM rfl rfl rfl rfl rfl ?_
   refine JP (rp_run1 (f := fun u => Instr.extract u 0) (fun _ => rfl) rfl (fun _ => rfl)) ?_
   refine JP (rp_run1 (f := fun u => Instr.extract u 1) (fun _ => rfl) rfl (fun _ => rfl)) ?_
   refine JN rfl rfl rfl rfl rfl ?_
   refine JN rfl rfl rfl rfl rfl ?_
   refine JL_nil ?_
   refine JQ_then_n ?_
   refine J_seq ?_
   refine J_keep (l' := [(3, _), (4, _), (5, _), (6, _), (7, _), (9, _), (24, _), (25, _), (26, _)]) ⟨rfl, rfl, rfl, rfl, rfl, rfl, rfl, rfl, rfl, trivial⟩ ?_
   refine J_reg ?_
   refine JM rfl rfl rfl rfl rfl ?_
   refine JP (rp1 rfl (fun ρ hx w => ex_not rfl hx)) ?_
   refine JM rfl rfl rfl rfl rfl ?_
   refine JPg (rp_move rfl rfl) ?_
   refine JPg (rp_arrC (off' := 0) rfl rfl rfl ia_90_0 rfl) ?_
   refine JVg (rv_agg (cs := [_, _]) rfl rfl ag_89 sz_89 (by repeat constructor) (by rfl)) ?_
   refine JL_op (wn_g rfl rfl rfl rfl) (ow_callB (ec_fn rfl rfl cf_75) rfl rfl (fun w hw => at75 (tmM m T G G.length) g.1 w t19.1 t19.2.1 t19.2.2 (hw.ok (mapB 89 3 kP W2 dI t19.1 t19.2.1 t19.2.2 (tmM m T G G.length)) (by repeat constructor)).1 hgw.1)) (fun _ _ => ?_)
   refine JPg (rp2 rfl rfl (fun ρ hx hy w => ex_geqD rfl hx hy)) ?_
   refine JL_dec (fun h44 => ?_) (fun h44 => ?_)
   ·refine JP (rp_pickT rfl rfl rfl) ?_
    refine JM rfl rfl rfl rfl rfl ?_
    refine JPg (rp_move rfl rfl) ?_
    refine JPg (rp_arrC (off' := 2) rfl rfl rfl ia_90_1 rfl) ?_
    refine JVg (rv_agg (cs := [_, _]) rfl rfl ag_89 sz_89 (by repeat constructor) (by rfl)) ?_
    refine JL_op (wn_g rfl rfl rfl rfl) (ow_callB (ec_fn rfl rfl cf_75) rfl rfl (fun w hw => at75 (tmM m T G G.length) g.2 w t19.1 t19.2.1 t19.2.2 (hw.ok (mapB 89 3 kP W2 dI t19.1 t19.2.1 t19.2.2 (tmM m T G G.length)) (by repeat constructor)).1 hgw.2)) (fun _ _ => ?_)
    refine JPg (rp2 rfl rfl (fun ρ hx hy w => ex_geqD rfl hx hy)) ?_
    refine JL_dec (fun h51 => ?_) (fun h51 => ?_)
    ·refine JP (rp_pickT rfl rfl rfl) ?_
     refine JL_nil ?_
     refine JQ_then_n ?_
     refine J_yes rfl rfl ?_
     refine J_keep (l' := [(3, _), (4, _), (5, _), (6, _), (24, _), (25, _), (26, _)]) ⟨rfl, rfl, rfl, rfl, rfl, rfl, rfl, trivial⟩ ?_
     refine J_reg ?_
     refine JM rfl rfl rfl rfl rfl ?_
     refine JM rfl rfl rfl rfl rfl ?_
     refine JL_op (wn0 rfl) (ow_sliceC (vs := [_]) (ty := 3) rfl rfl (by rfl) rfl rfl (fun _ => by kernel_rfl)) (fun b55 hb55 => ?_)
     refine JL_opS (wn0 rfl) (ow_app1 EI (by decide) (((i : Nat) : Int)) Try.underlying26 Try.info3 rfl (by decide) rfl rfl rfl rfl rfl (by repeat constructor) (by rfl) (by omega) (by intro A c; repeat constructor)) (fun A56 c56 => ?_)
     refine JN rfl rfl rfl rfl rfl ?_
     refine JL_nil ?_
     refine JQ_block_n ?_
     refine JQ_then_n ?_
     refine J_keep (l' := [(3, _), (4, _), (5, _), (24, _), (25, _), (26, _)]) ⟨rfl, rfl, rfl, rfl, rfl, rfl, trivial⟩ ?_
     refine J_reg ?_
     refine JP (rp2 rfl rfl (fun ρ hx hy w => ex_add rfl hx hy (by omega))) ?_
     refine JM rfl rfl rfl rfl rfl ?_
     refine JL_nil ?_
     have hrb : rdB m (tmM m T G G.length) G i = true := by
       unfold rdB
       rw [hgd, hmi]
       show (true && decide (0 ≤ atM (tmM m T G G.length) g.1) && decide (0 ≤ atM (tmM m T G G.length) g.2)) = _
       rw [decide_eq_true (show 0 ≤ atM (tmM m T G G.length) g.1 by omega)]
       rw [decide_eq_true (show 0 ≤ atM (tmM m T G G.length) g.2 by omega)]
       rfl
     have hsn := rdL_succ m (tmM m T G G.length) G i
     rw [hrb] at hsn
     have hsn : rdL m (tmM m T G G.length) G (i + 1) = rdL m (tmM m T G G.length) G i ++ [((i : Nat) : Int)] := hsn
     exact JQ_round (i + 1, A56, c56) (by dsimp only; omega) (by dsimp only; omega) ⟨rfl, rfl, (by rw [hsn]; rfl), rfl, rfl, (congrArg some (by go_num)), trivial⟩ (by (try dsimp only); rw [hsn]; repeat (first | exact Pk.nil _ | (refine Pk.pick (by repeat (first | exact Rm.here _ | apply Rm.there)) ?_)))
    ·refine JP (rp_pickT rfl rfl rfl) ?_
     refine JL_nil ?_
     refine JQ_then_n ?_
     refine J_no rfl rfl ?_
     refine J_skip ?_
     refine JQ_block_n ?_
     refine JQ_then_n ?_
     refine J_keep (l' := [(3, _), (4, _), (5, _), (24, _), (25, _), (26, _)]) ⟨rfl, rfl, rfl, rfl, rfl, rfl, trivial⟩ ?_
     refine J_reg ?_
     refine JP (rp2 rfl rfl (fun ρ hx hy w => ex_add rfl hx hy (by omega))) ?_
     refine JM rfl rfl rfl rfl rfl ?_
     refine JL_nil ?_
     have hrb : rdB m (tmM m T G G.length) G i = false := by
       unfold rdB
       rw [hgd, hmi]
       show (true && decide (0 ≤ atM (tmM m T G G.length) g.1) && decide (0 ≤ atM (tmM m T G G.length) g.2)) = _
       rw [decide_eq_true (show 0 ≤ atM (tmM m T G G.length) g.1 by omega)]
       rw [decide_eq_false (show ¬ 0 ≤ atM (tmM m T G G.length) g.2 by omega)]
       rfl
     have hsn := rdL_succ m (tmM m T G G.length) G i
     rw [hrb] at hsn
     have hsn : rdL m (tmM m T G G.length) G (i + 1) = rdL m (tmM m T G G.length) G i := hsn
     exact JQ_round (i + 1, A5, c5) (by dsimp only; omega) (by dsimp only; omega) ⟨rfl, rfl, (by rw [hsn]; rfl), rfl, rfl, (congrArg some (by go_num)), trivial⟩ (by (try dsimp only); rw [hsn]; repeat (first | exact Pk.nil _ | (refine Pk.pick (by repeat (first | exact Rm.here _ | apply Rm.there)) ?_)))
   ·refine JP (rp_pickT rfl rfl rfl) ?_
    refine JM rfl rfl rfl rfl rfl ?_
    refine JF ?_
    refine JF ?_
    refine JF ?_
    refine JF ?_
    refine JF ?_
    refine JP (rp_pickF rfl rfl rfl) ?_
    refine JL_nil ?_
    refine JQ_then_n ?_
    refine J_no rfl rfl ?_
    refine J_skip ?_
    refine JQ_block_n ?_
    refine JQ_then_n ?_
    refine J_keep (l' := [(3, _), (4, _), (5, _), (24, _), (25, _), (26, _)]) ⟨rfl, rfl, rfl, rfl, rfl, rfl, trivial⟩ ?_
    refine J_reg ?_
    refine JP (rp2 rfl rfl (fun ρ hx hy w => ex_add rfl hx hy (by omega))) ?_
    refine JM rfl rfl rfl rfl rfl ?_
    refine JL_nil ?_
    have hrb : rdB m (tmM m T G G.length) G i = false := by
      unfold rdB
      rw [hgd, hmi]
      show (true && decide (0 ≤ atM (tmM m T G G.length) g.1) && decide (0 ≤ atM (tmM m T G G.length) g.2)) = _
      rw [decide_eq_false (show ¬ 0 ≤ atM (tmM m T G G.length) g.1 by omega)]
      rfl
    have hsn := rdL_succ m (tmM m T G G.length) G i
    rw [hrb] at hsn
    have hsn : rdL m (tmM m T G G.length) G (i + 1) = rdL m (tmM m T G G.length) G i := hsn
    exact JQ_round (i + 1, A5, c5) (by dsimp only; omega) (by dsimp only; omega) ⟨rfl, rfl, (by rw [hsn]; rfl), rfl, rfl, (congrArg some (by go_num)), trivial⟩ (by (try dsimp only); rw [hsn]; repeat (first | exact Pk.nil _ | (refine Pk.pick (by repeat (first | exact Rm.here _ | apply Rm.there)) ?_)))
  ·refine J_keep (l' := [(3, _), (4, _), (5, _), (6, _), (7, _), (24, _), (25, _), (26, _)]) ⟨rfl, rfl, rfl, rfl, rfl, rfl, rfl, rfl, trivial⟩ ?_
   refine J_reg ?_
   refine JM rfl rfl rfl rfl rfl ?_
   refine JM rfl rfl rfl rfl rfl ?_
   refine JV (rv_lookR (k := k) (f := m) rfl rfl rfl (by repeat constructor) (by unfold W64; omega) hmi) ?_
   refine JM rfl rfl rfl rfl rfl ?_
   refine JP (rp_run1 (f := fun u => Instr.extract u 0) (fun _ => rfl) rfl (fun _ => rfl)) ?_
   refine JP (rp_run1 (f := fun u => Instr.extract u 1) (fun _ => rfl) rfl (fun _ => rfl)) ?_
   refine JN rfl rfl rfl rfl rfl ?_
   refine JN rfl rfl rfl rfl rfl ?_
   refine JL_nil ?_
   refine JQ_then_n ?_
   refine J_seq ?_
   refine J_keep (l' := [(3, _), (4, _), (5, _), (6, _), (7, _), (9, _), (24, _), (25, _), (26, _)]) ⟨rfl, rfl, rfl, rfl, rfl, rfl, rfl, rfl, rfl, trivial⟩ ?_
   refine J_reg ?_
   refine JM rfl rfl rfl rfl rfl ?_
   refine JP (rp1 rfl (fun ρ hx w => ex_not rfl hx)) ?_
   refine JM rfl rfl rfl rfl rfl ?_
   refine JF ?_
   refine JF ?_
   refine JF ?_
   refine JF ?_
   refine JF ?_
   refine JP (rp_pickF rfl rfl rfl) ?_
   refine JM rfl rfl rfl rfl rfl ?_
   refine JF ?_
   refine JF ?_
   refine JF ?_
   refine JF ?_
   refine JF ?_
   refine JP (rp_pickF rfl rfl rfl) ?_
   refine JL_nil ?_
   refine JQ_then_n ?_
   refine J_no rfl rfl ?_
   refine J_skip ?_
   refine JQ_block_n ?_
   refine JQ_then_n ?_
   refine J_keep (l' := [(3, _), (4, _), (5, _), (24, _), (25, _), (26, _)]) ⟨rfl, rfl, rfl, rfl, rfl, rfl, trivial⟩ ?_
   refine J_reg ?_
   refine JP (rp2 rfl rfl (fun ρ hx hy w => ex_add rfl hx hy (by omega))) ?_
   refine JM rfl rfl rfl rfl rfl ?_
   refine JL_nil ?_
   have hrb : rdB m (tmM m T G G.length) G i = false := by
     unfold rdB
     rw [hgd, hmi]
     rfl
   have hsn := rdL_succ m (tmM m T G G.length) G i
   rw [hrb] at hsn
   have hsn : rdL m (tmM m T G G.length) G (i + 1) = rdL m (tmM m T G G.length) G i := hsn
   exact JQ_round (i + 1, A5, c5) (by dsimp only; omega) (by dsimp only; omega) ⟨rfl, rfl, (by rw [hsn]; rfl), rfl, rfl, (congrArg some (by go_num)), trivial⟩ (by (try dsimp only); rw [hsn]; repeat (first | exact Pk.nil _ | (refine Pk.pick (by repeat (first | exact Rm.here _ | apply Rm.there)) ?_)))
 ·refine JL_nil ?_
  refine JQ_then_n ?_
  refine J_seq ?_
  refine J_no rfl rfl ?_
  refine J_exit ?_
  refine JQ_then_x ?_
  refine JQ_then_x ?_
  refine JQ_block_y rfl ?_
  refine JQ_then_n ?_
  refine J_seq ?_
  refine J_keep (l' := [(5, _)]) ⟨rfl, trivial⟩ ?_
  refine J_reg ?_
  refine JM rfl rfl rfl rfl rfl ?_
  refine JN rfl rfl rfl rfl rfl ?_
  refine JL_nil ?_
  refine JQ_then_n ?_
  refine J_ret ?_
  refine JR_one rfl (rr_tmp rfl) ?_
  intro w' hw
  obtain rfl : i = G.length := by omega
  exact ⟨A5, c5, rfl, hw.pick (by repeat constructor)⟩
end Go.Proofs.Ytlfbbofcnonhdaa
