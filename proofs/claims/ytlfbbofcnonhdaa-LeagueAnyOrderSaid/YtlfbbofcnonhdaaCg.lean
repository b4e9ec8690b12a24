/- The document on playdowns: Teams, Ready, Places. -/
import Derived.Test.YtlfbbofcnonhdaaCf
namespace Go.Proofs.Ytlfbbofcnonhdaa
open Go Go.RowKit Go.Proofs

set_option maxRecDepth 100000 in
set_option maxHeartbeats 4000000 in
theorem Teams77 (T : Nat) (G : List Gm) (R : List (Int × Int)) (W : List Int) (m : Int → Option Int) (hW : WOk G m W) (hGl : G.length ≤ 64) (hgm : ∀ i (h : i < G.length), rng (T : Nat) (G[i]'h).1 (i : Nat) ∧ rng (T : Nat) (G[i]'h).2 (i : Nat)) (i : Int) (w : World) (A A2 A3 : Option Addr) (c c2 c3 : Nat) (hq : QdF T G R W w A A2 A3 c c2 c3) : Calls Try.prog 77 #[Qdv (T : Nat) A G.length c A2 R.length c2 A3 W.length c3, .int .i64 i] w (Back (.tuple #[.int .i64 (tmsR T G m i).1, .int .i64 (tmsR T G m i).2.1, .int .i64 (tmsR T G m i).2.2]) w) := by
 refine J_enter (fun _ => False) (vs := [Qdv (T : Nat) A G.length c A2 R.length c2 A3 W.length c3, .int .i64 i]) (k := 30) (l := [(0, Qdv (T : Nat) A G.length c A2 R.length c2 A3 W.length c3), (1, .int .i64 i)]) Try.func77 rfl rfl Try.ntmps77 rfl rfl (Wd.start _) ?_
 refine J_seq ?_
 refine J_reg ?_
 refine JL_op (wn0 rfl) (ow_box (vs := [_, _, _, _]) rfl rfl rfl rfl rfl) (fun b2 hb2 => ?_)
 refine JN rfl rfl rfl rfl rfl ?_
 refine JN rfl rfl rfl rfl rfl ?_
 refine JN rfl rfl rfl rfl rfl ?_
 refine JL_nil ?_
 refine JQ_then_n ?_
 refine J_seq ?_
 refine J_seq ?_
 have hWl := hW.len
 refine J_keep (l' := [(1, _), (2, _)]) ⟨rfl, rfl, trivial⟩ ?_
 refine J_reg ?_
 refine JM rfl rfl rfl rfl rfl ?_
 refine JP (rp_fieldC (off' := 3) rfl rfl fa_77_1 rfl) ?_
 refine JV (rv_cell rfl rfl ag_26 (by repeat constructor) (by rfl)) ?_
 refine JP (rp1 rfl (fun ρ hx w => ex_len (A := _) (c := _) rfl Try.underlying26 hx)) ?_
 refine JP (rp2 rfl rfl (fun ρ hx hy w => ex_sub rfl hx hy (by omega))) ?_
 refine JL_op (wn0 rfl) (ow_callP (ec_fn rfl rfl cf_52) rfl rfl (fun w hw => in52 i 0 ((W.length : Nat) - 1) w)) (fun _ _ => ?_)
 refine JL_bool (fun h12 => ?_) (fun h12 => ?_)
 ·refine JP (rp1 rfl (fun ρ hx w => ex_not rfl hx)) ?_
  refine JL_nil ?_
  refine JQ_then_n ?_
  refine J_no rfl rfl ?_
  refine J_skip ?_
  refine JQ_then_n ?_
  refine J_seq ?_
  have hib := of_decide_eq_true h12
  have hWl := hW.len
  obtain ⟨k, rfl⟩ := Int.eq_ofNat_of_zero_le hib.1
  have hik : ((k : Nat) : Int).toNat = k := Int.toNat_natCast k
  have hlt : k < G.length := by omega
  obtain ⟨g, hg⟩ : ∃ g, G[k]'hlt = g := ⟨_, rfl⟩
  have hgd : G.getD k ((0, 0), (0, 0)) = g := by rw [List.getD_eq_getElem?_getD, List.getElem?_eq_getElem hlt]; exact hg
  obtain ⟨hg1, hg2⟩ := hgm k hlt
  rw [hg] at hg1 hg2
  obtain ⟨Ag1, cg1, eg1, -, -, hA1⟩ := id hq.g
  injection eg1 with e1 e2 e3
  subst e1 e3
  obtain ⟨b, p, rfl, hh⟩ := hA1 (by intro e; subst e; simp at hlt)
  refine J_keep (l' := [(1, _), (2, _)]) ⟨rfl, rfl, trivial⟩ ?_
  refine J_draw [0, 3, 7, 9, 12, 16] (by kernel_rfl) ?_
  refine JAL (i := 0) rfl (rv_agg (cs := [_, _, _, _]) rfl rfl ag_77 sz_77 (by repeat constructor) (by rfl)) ?_
  refine JAP (i := 1) rfl (rp_fieldC (off' := 0) rfl rfl fa_77_0 rfl) ?_
  refine JAP (i := 2) rfl (rp_fieldC (off' := 1) rfl rfl fa_25_1 rfl) ?_
  refine JAL (i := 3) rfl (rv_cell rfl rfl ag_22 (by repeat constructor) (by rfl)) ?_
  refine JAP (i := 4) rfl (rp_move rfl rfl) ?_
  refine JAP (i := 5) rfl (rp2 rfl rfl (fun ρ hx hy w => ex_indexI (k := k) rfl hx hy rfl Try.underlying22 sz_90 (by omega))) ?_
  refine JAP (i := 6) rfl (rp_arrE (i' := 0) rfl rfl rfl ia_90_0 rfl) ?_
  refine JAL (i := 7) rfl (rv_holdpart (j := k) (i := 0) (m := 2) (cs := [.int .i64 g.1.1, .int .i64 g.1.2]) EG rfl rfl ag_89 sz_89 (fun h => h) hh hlt (by omega) (by rw [hg]; rfl)) ?_
  refine JAL (i := 9) rfl (rv_agg (cs := [_, _, _, _]) rfl rfl ag_77 sz_77 (by repeat constructor) (by rfl)) ?_
  refine JAP (i := 10) rfl (rp_fieldC (off' := 0) rfl rfl fa_77_0 rfl) ?_
  refine JAP (i := 11) rfl (rp_fieldC (off' := 1) rfl rfl fa_25_1 rfl) ?_
  refine JAL (i := 12) rfl (rv_cell rfl rfl ag_22 (by repeat constructor) (by rfl)) ?_
  refine JAP (i := 13) rfl (rp_move rfl rfl) ?_
  refine JAP (i := 14) rfl (rp2 rfl rfl (fun ρ hx hy w => ex_indexI (k := k) rfl hx hy rfl Try.underlying22 sz_90 (by omega))) ?_
  refine JAP (i := 15) rfl (rp_arrE (i' := 2) rfl rfl rfl ia_90_1 rfl) ?_
  refine JAL (i := 16) rfl (rv_holdpart (j := k) (i := 2) (m := 2) (cs := [.int .i64 g.2.1, .int .i64 g.2.2]) EG rfl rfl ag_89 sz_89 (fun h => h) hh hlt (by omega) (by rw [hg]; rfl)) ?_
  refine JA_one (i := 8) (by kernel_rfl) rfl (wn0 rfl) (ow_callB (ec_fn rfl rfl cf_93) rfl rfl (fun w hw => Known93 T G R W m hW hGl hgm g.1 k hg1 (by omega) w _ _ _ c c2 c3 (hq.up hw.bel))) trivial (fun _ _ => ?_)
  refine JA_one (i := 17) (by kernel_rfl) rfl (wn0 rfl) (ow_callB (ec_fn rfl rfl cf_93) rfl rfl (fun w hw => Known93 T G R W m hW hGl hgm g.2 k hg2 (by omega) w _ _ _ c c2 c3 (hq.up hw.bel))) trivial (fun _ _ => ?_)
  refine JAP (i := 18) rfl (rp_assign rfl rfl) ?_
  refine JAP (i := 19) rfl (rp_assign rfl rfl) ?_
  refine JAP (i := 20) rfl (rp_assign rfl rfl) ?_
  refine JA_done (by kernel_rfl) ?_
  refine JQ_then_n ?_
  refine J_ret ?_
  refine JR_three rfl (rr_tmp rfl) (rr_tmp rfl) (rr_tmp rfl) ?_
  intro w' hw
  have e : tmsR T G m ((k : Nat) : Int) = (atM (tmM m T G G.length) g.1, atM (tmM m T G G.length) g.2, 0) := by
    unfold tmsR; rw [if_pos (by omega), hik, hgd]
  rw [e]
  exact ⟨rfl, hw.bel⟩
 ·refine JP (rp1 rfl (fun ρ hx w => ex_not rfl hx)) ?_
  refine JL_nil ?_
  refine JQ_then_n ?_
  refine J_yes rfl rfl ?_
  refine J_seq ?_
  refine J_keep (l' := []) trivial ?_
  refine J_reg ?_
  refine JN rfl rfl rfl rfl rfl ?_
  refine JN rfl rfl rfl rfl rfl ?_
  refine JN rfl rfl rfl rfl rfl ?_
  refine JL_nil ?_
  refine JQ_then_n ?_
  refine J_ret ?_
  refine JQ_then_r ?_
  refine JR_three rfl (rr_tmp rfl) (rr_tmp rfl) (rr_tmp rfl) ?_
  intro w' hw
  have e : tmsR T G m i = (0, 0, 7) := if_neg (by rw [← hW.len]; exact of_decide_eq_false h12)
  rw [e]
  exact ⟨rfl, hw.bel⟩
set_option maxRecDepth 100000 in
set_option maxHeartbeats 4000000 in
theorem Ready78 (T : Nat) (G : List Gm) (R : List (Int × Int)) (W : List Int) (m : Int → Option Int) (hW : WOk G m W) (hGl : G.length ≤ 64) (hgm : ∀ i (h : i < G.length), rng (T : Nat) (G[i]'h).1 (i : Nat) ∧ rng (T : Nat) (G[i]'h).2 (i : Nat)) (w : World) (A A2 A3 : Option Addr) (c c2 c3 : Nat) (hq : QdF T G R W w A A2 A3 c c2 c3) : Calls Try.prog 78 #[Qdv (T : Nat) A G.length c A2 R.length c2 A3 W.length c3] w (RetS 3 1 eI (rdL m (tmM m T G G.length) G G.length) w) := by
 refine J_enter (fun _ => False) (vs := [Qdv (T : Nat) A G.length c A2 R.length c2 A3 W.length c3]) (k := 40) (l := [(0, Qdv (T : Nat) A G.length c A2 R.length c2 A3 W.length c3)]) Try.func78 rfl rfl Try.ntmps78 rfl rfl (Wd.start _) ?_
 refine J_seq ?_
 refine J_reg ?_
 refine JL_op (wn0 rfl) (ow_box (vs := [_, _, _, _]) rfl rfl rfl rfl rfl) (fun b1 hb1 => ?_)
 refine JN rfl rfl rfl rfl rfl ?_
 refine JL_nil ?_
 refine JQ_then_n ?_
 refine J_seq ?_
 refine J_reg ?_
 refine JN rfl rfl rfl rfl rfl ?_
 refine JL_nil ?_
 refine JQ_then_n ?_
 refine J_seq ?_
 refine J_seq ?_
 refine J_own0 3 1 ?_
 refine J_reg ?_
 refine JN rfl rfl rfl rfl rfl ?_
 refine JL_nil ?_
 refine JQ_then_n ?_
 refine J_block ?_
 refine J_loop (T := Nat × Option Addr × Nat) (fun q => q.1 ≤ G.length) (fun q => [(1, .pointer (some ⟨b1, 0, none⟩)), (3, .slice q.2.1 (rdL m (tmM m T G G.length) G q.1).length q.2.2), (4, .int .i64 (q.1 : Nat))]) (fun q => [ownB 3 1 q.2.1 (rdL m (tmM m T G G.length) G q.1).length q.2.2 ((rdL m (tmM m T G G.length) G q.1).flatMap eI), cellB b1 [.int .i64 (T : Nat), .slice A G.length c, .slice A2 R.length c2, .slice A3 W.length c3] 77]) (fun q => G.length - q.1) (0, none, 0) (Nat.zero_le _) ⟨rfl, rfl, rfl, trivial⟩ (by repeat constructor) ?_
 rintro ⟨i, A5, c5⟩ hi
 dsimp only at hi ⊢
 refine J_seq ?_
 refine J_seq ?_
 have hWl := hW.len
 refine J_reg ?_
 refine JM rfl rfl rfl rfl rfl ?_
 refine JP (rp_fieldC (off' := 3) rfl rfl fa_77_1 rfl) ?_
 refine JV (rv_cell rfl rfl ag_26 (by repeat constructor) (by rfl)) ?_
 refine JP (rp1 rfl (fun ρ hx w => ex_len (A := _) (c := _) rfl Try.underlying26 hx)) ?_
 refine JP (rp2 rfl rfl (fun ρ hx hy w => ex_lssD rfl hx hy)) ?_
 refine JL_dec (fun h12 => ?_) (fun h12 => ?_)
 ·refine JL_nil ?_
  refine JQ_then_n ?_
  refine J_yes rfl rfl ?_
  refine J_skip ?_
  refine JQ_then_n ?_
  refine J_seq ?_
  refine J_block ?_
  refine J_seq ?_
  have hWl := hW.len
  have hlt : i < G.length := by omega
  have hltW : i < W.length := by omega
  obtain ⟨g, hg⟩ : ∃ g, G[i]'hlt = g := ⟨_, rfl⟩
  have hgd : G.getD i ((0, 0), (0, 0)) = g := by rw [List.getD_eq_getElem?_getD, List.getElem?_eq_getElem hlt]; exact hg
  obtain ⟨v, hWv⟩ : ∃ v, W[i]'hltW = v := ⟨_, rfl⟩
  have hWm : v = (m ((i : Nat) : Int)).getD (-1) := by rw [← hWv]; exact hW.get i hltW
  have htm : tmsR T G m ((i : Nat) : Int) = (atM (tmM m T G G.length) g.1, atM (tmM m T G G.length) g.2, 0) := by
    unfold tmsR; rw [if_pos (by omega), Int.toNat_natCast, hgd]
  have hrl := rdL_len m (tmM m T G G.length) G i
  obtain ⟨Ag3, cg3, eg3, -, -, hA3⟩ := id hq.w
  injection eg3 with e1 e2 e3
  subst e1 e3
  obtain ⟨bw, pw, rfl, hhW⟩ := hA3 (by intro e; subst e; simp at hltW)
  refine J_keep (l' := [(1, _), (3, _), (4, _)]) ⟨rfl, rfl, rfl, trivial⟩ ?_
  refine J_reg ?_
  refine JV (rv_agg (cs := [_, _, _, _]) rfl rfl ag_77 sz_77 (by repeat constructor) (by rfl)) ?_
  refine JM rfl rfl rfl rfl rfl ?_
  refine JL_op (wn0 rfl) (ow_callB (ec_fn rfl rfl cf_77) rfl rfl (fun w hw => (by have := Teams77 T G R W m hW hGl hgm (i : Nat) w _ _ _ c c2 c3 (hq.up hw.bel); rw [htm] at this; exact this))) (fun _ _ => ?_)
  refine JM rfl rfl rfl rfl rfl ?_
  refine JP (rp_run1 (f := fun u => Instr.extract u 0) (fun _ => rfl) rfl (fun _ => rfl)) ?_
  refine JP (rp_run1 (f := fun u => Instr.extract u 1) (fun _ => rfl) rfl (fun _ => rfl)) ?_
  refine JP (rp_run1 (f := fun u => Instr.extract u 2) (fun _ => rfl) rfl (fun _ => rfl)) ?_
  refine JN rfl rfl rfl rfl rfl ?_
  refine JN rfl rfl rfl rfl rfl ?_
  refine JN rfl rfl rfl rfl rfl ?_
  refine JL_nil ?_
  refine JQ_then_n ?_
  refine J_seq ?_
  refine J_keep (l' := [(1, _), (3, _), (4, _), (5, _), (6, _)]) ⟨rfl, rfl, rfl, rfl, rfl, trivial⟩ ?_
  refine J_reg ?_
  refine JP (rp_fieldC (off' := 3) rfl rfl fa_77_1 rfl) ?_
  refine JV (rv_cell rfl rfl ag_26 (by repeat constructor) (by rfl)) ?_
  refine JM rfl rfl rfl rfl rfl ?_
  refine JP (rp2 rfl rfl (fun ρ hx hy w => ex_indexE rfl hx hy Try.underlying26 sz_3 (by omega))) ?_
  refine JV (rv_hold (j := i) rfl rfl ag_3 (fun h => h) hhW hltW (by omega) (by rw [hWv]; rfl)) ?_
  refine JP (rp2 rfl rfl (fun ρ hx hy w => ex_lssD rfl hx hy)) ?_
  refine JL_dec (fun h27 => ?_) (fun h27 => ?_)
  ·refine JM rfl rfl rfl rfl rfl ?_
   refine JPg (rp_move rfl rfl) ?_
   refine JPg (rp2 rfl rfl (fun ρ hx hy w => ex_geqD rfl hx hy)) ?_
   refine JL_dec (fun h30 => ?_) (fun h30 => ?_)
   ·refine JP (rp_pickT rfl rfl rfl) ?_
    refine JM rfl rfl rfl rfl rfl ?_
    refine JPg (rp_move rfl rfl) ?_
    refine JPg (rp2 rfl rfl (fun ρ hx hy w => ex_geqD rfl hx hy)) ?_
    refine JL_dec (fun h34 => ?_) (fun h34 => ?_)
    ·refine JP (rp_pickT rfl rfl rfl) ?_
     refine JL_nil ?_
     refine JQ_then_n ?_
     refine J_yes rfl rfl ?_
     refine J_keep (l' := [(1, _), (3, _), (4, _)]) ⟨rfl, rfl, rfl, trivial⟩ ?_
     refine J_reg ?_
     refine JM rfl rfl rfl rfl rfl ?_
     refine JM rfl rfl rfl rfl rfl ?_
     refine JL_op (wn0 rfl) (ow_sliceC (vs := [_]) (ty := 3) rfl rfl (by rfl) rfl rfl (fun _ => by kernel_rfl)) (fun b38 hb38 => ?_)
     refine JL_opS (wn0 rfl) (ow_app1 EI (by decide) (((i : Nat) : Int)) Try.underlying26 Try.info3 rfl (by decide) rfl rfl rfl rfl rfl (by repeat constructor) (by rfl) (by omega) (by intro A c; repeat constructor)) (fun A39 c39 => ?_)
     refine JN rfl rfl rfl rfl rfl ?_
     refine JL_nil ?_
     refine JQ_block_n ?_
     refine JQ_then_n ?_
     refine J_keep (l' := [(1, _), (3, _), (4, _)]) ⟨rfl, rfl, rfl, trivial⟩ ?_
     refine J_reg ?_
     refine JM rfl rfl rfl rfl rfl ?_
     refine JP (rp2 rfl rfl (fun ρ hx hy w => ex_add rfl hx hy (by omega))) ?_
     refine JN rfl rfl rfl rfl rfl ?_
     refine JL_nil ?_
     have hmi : (m ((i : Nat) : Int)).isNone = true := by
       cases hm : m ((i : Nat) : Int) with
       | none => first | rfl | (exfalso; rw [hm] at hWm; simp only [Option.getD_none] at hWm; omega)
       | some r => first | rfl | (exfalso; have := hW.v _ _ hm; rw [hm] at hWm; simp only [Option.getD_some] at hWm; omega)
     have hrb : rdB m (tmM m T G G.length) G i = true := by
       unfold rdB
       rw [hgd, hmi]
       rw [decide_eq_true (show 0 ≤ atM (tmM m T G G.length) g.1 by omega)]
       rw [decide_eq_true (show 0 ≤ atM (tmM m T G G.length) g.2 by omega)]
       rfl
     have hsn := rdL_succ m (tmM m T G G.length) G i
     rw [hrb] at hsn
     have hsn : rdL m (tmM m T G G.length) G (i + 1) = rdL m (tmM m T G G.length) G i ++ [((i : Nat) : Int)] := hsn
     exact JQ_round (i + 1, A39, c39) (by dsimp only; omega) (by dsimp only; omega) ⟨rfl, (by rw [hsn]; rfl), (congrArg some (by go_num)), trivial⟩ (by (try dsimp only); rw [hsn]; repeat (first | exact Pk.nil _ | (refine Pk.pick (by repeat (first | exact Rm.here _ | apply Rm.there)) ?_)))
    ·refine JP (rp_pickT rfl rfl rfl) ?_
     refine JL_nil ?_
     refine JQ_then_n ?_
     refine J_no rfl rfl ?_
     refine J_skip ?_
     refine JQ_block_n ?_
     refine JQ_then_n ?_
     refine J_keep (l' := [(1, _), (3, _), (4, _)]) ⟨rfl, rfl, rfl, trivial⟩ ?_
     refine J_reg ?_
     refine JM rfl rfl rfl rfl rfl ?_
     refine JP (rp2 rfl rfl (fun ρ hx hy w => ex_add rfl hx hy (by omega))) ?_
     refine JN rfl rfl rfl rfl rfl ?_
     refine JL_nil ?_
     have hmi : (m ((i : Nat) : Int)).isNone = true := by
       cases hm : m ((i : Nat) : Int) with
       | none => first | rfl | (exfalso; rw [hm] at hWm; simp only [Option.getD_none] at hWm; omega)
       | some r => first | rfl | (exfalso; have := hW.v _ _ hm; rw [hm] at hWm; simp only [Option.getD_some] at hWm; omega)
     have hrb : rdB m (tmM m T G G.length) G i = false := by
       unfold rdB
       rw [hgd, hmi]
       rw [decide_eq_true (show 0 ≤ atM (tmM m T G G.length) g.1 by omega)]
       rw [decide_eq_false (show ¬ 0 ≤ atM (tmM m T G G.length) g.2 by omega)]
       rfl
     have hsn := rdL_succ m (tmM m T G G.length) G i
     rw [hrb] at hsn
     have hsn : rdL m (tmM m T G G.length) G (i + 1) = rdL m (tmM m T G G.length) G i := hsn
     exact JQ_round (i + 1, A5, c5) (by dsimp only; omega) (by dsimp only; omega) ⟨rfl, (by rw [hsn]; rfl), (congrArg some (by go_num)), trivial⟩ (by (try dsimp only); rw [hsn]; repeat (first | exact Pk.nil _ | (refine Pk.pick (by repeat (first | exact Rm.here _ | apply Rm.there)) ?_)))
   ·refine JP (rp_pickT rfl rfl rfl) ?_
    refine JM rfl rfl rfl rfl rfl ?_
    refine JF ?_
    refine JF ?_
    refine JP (rp_pickF rfl rfl rfl) ?_
    refine JL_nil ?_
    refine JQ_then_n ?_
    refine J_no rfl rfl ?_
    refine J_skip ?_
    refine JQ_block_n ?_
    refine JQ_then_n ?_
    refine J_keep (l' := [(1, _), (3, _), (4, _)]) ⟨rfl, rfl, rfl, trivial⟩ ?_
    refine J_reg ?_
    refine JM rfl rfl rfl rfl rfl ?_
    refine JP (rp2 rfl rfl (fun ρ hx hy w => ex_add rfl hx hy (by omega))) ?_
    refine JN rfl rfl rfl rfl rfl ?_
    refine JL_nil ?_
    have hmi : (m ((i : Nat) : Int)).isNone = true := by
      cases hm : m ((i : Nat) : Int) with
      | none => first | rfl | (exfalso; rw [hm] at hWm; simp only [Option.getD_none] at hWm; omega)
      | some r => first | rfl | (exfalso; have := hW.v _ _ hm; rw [hm] at hWm; simp only [Option.getD_some] at hWm; omega)
    have hrb : rdB m (tmM m T G G.length) G i = false := by
      unfold rdB
      rw [hgd, hmi]
      rw [decide_eq_false (show ¬ 0 ≤ atM (tmM m T G G.length) g.1 by omega)]
      rfl
    have hsn := rdL_succ m (tmM m T G G.length) G i
    rw [hrb] at hsn
    have hsn : rdL m (tmM m T G G.length) G (i + 1) = rdL m (tmM m T G G.length) G i := hsn
    exact JQ_round (i + 1, A5, c5) (by dsimp only; omega) (by dsimp only; omega) ⟨rfl, (by rw [hsn]; rfl), (congrArg some (by go_num)), trivial⟩ (by (try dsimp only); rw [hsn]; repeat (first | exact Pk.nil _ | (refine Pk.pick (by repeat (first | exact Rm.here _ | apply Rm.there)) ?_)))
  ·refine JM rfl rfl rfl rfl rfl ?_
   refine JF ?_
   refine JF ?_
   refine JP (rp_pickF rfl rfl rfl) ?_
   refine JM rfl rfl rfl rfl rfl ?_
   refine JF ?_
   refine JF ?_
   refine JP (rp_pickF rfl rfl rfl) ?_
   refine JL_nil ?_
   refine JQ_then_n ?_
   refine J_no rfl rfl ?_
   refine J_skip ?_
   refine JQ_block_n ?_
   refine JQ_then_n ?_
   refine J_keep (l' := [(1, _), (3, _), (4, _)]) ⟨rfl, rfl, rfl, trivial⟩ ?_
   refine J_reg ?_
   refine JM rfl rfl rfl rfl rfl ?_
   refine JP (rp2 rfl rfl (fun ρ hx hy w => ex_add rfl hx hy (by omega))) ?_
   refine JN rfl rfl rfl rfl rfl ?_
   refine JL_nil ?_
   have hmi : (m ((i : Nat) : Int)).isNone = false := by
     cases hm : m ((i : Nat) : Int) with
     | none => first | rfl | (exfalso; rw [hm] at hWm; simp only [Option.getD_none] at hWm; omega)
     | some r => first | rfl | (exfalso; have := hW.v _ _ hm; rw [hm] at hWm; simp only [Option.getD_some] at hWm; omega)
   have hrb : rdB m (tmM m T G G.length) G i = false := by
     unfold rdB
     rw [hgd, hmi]
     rfl
   have hsn := rdL_succ m (tmM m T G G.length) G i
   rw [hrb] at hsn
   have hsn : rdL m (tmM m T G G.length) G (i + 1) = rdL m (tmM m T G G.length) G i := hsn
   exact JQ_round (i + 1, A5, c5) (by dsimp only; omega) (by dsimp only; omega) ⟨rfl, (by rw [hsn]; rfl), (congrArg some (by go_num)), trivial⟩ (by (try dsimp only); rw [hsn]; repeat (first | exact Pk.nil _ | (refine Pk.pick (by repeat (first | exact Rm.here _ | apply Rm.there)) ?_)))
 ·refine JL_nil ?_
  refine JQ_then_n ?_
  refine J_no rfl rfl ?_
  refine J_exit ?_
  refine JQ_then_x ?_
  refine JQ_then_x ?_
  refine JQ_block_y rfl ?_
  refine JQ_then_n ?_
  refine J_seq ?_
  refine J_keep (l' := [(3, _)]) ⟨rfl, trivial⟩ ?_
  refine J_reg ?_
  refine JM rfl rfl rfl rfl rfl ?_
  refine JN rfl rfl rfl rfl rfl ?_
  refine JL_nil ?_
  refine JQ_then_n ?_
  refine J_ret ?_
  refine JR_one rfl (rr_tmp rfl) ?_
  intro w' hw
  obtain rfl : i = G.length := by omega
  exact ⟨A5, c5, rfl, hw.pick (by repeat constructor)⟩
set_option maxRecDepth 100000 in
set_option maxHeartbeats 4000000 in
theorem Places79 (T : Nat) (G : List Gm) (R : List (Int × Int)) (W : List Int) (m : Int → Option Int) (hW : WOk G m W) (hGl : G.length ≤ 64) (hgm : ∀ i (h : i < G.length), rng (T : Nat) (G[i]'h).1 (i : Nat) ∧ rng (T : Nat) (G[i]'h).2 (i : Nat)) (hpl2 : ∀ x ∈ R, rng (T : Nat) x (G.length : Nat)) (hRl : R.length ≤ 16) (w : World) (A A2 A3 : Option Addr) (c c2 c3 : Nat) (hq : QdF T G R W w A A2 A3 c c2 c3) : Calls Try.prog 79 #[Qdv (T : Nat) A G.length c A2 R.length c2 A3 W.length c3] w (RetS 3 1 eI (plcL (tmM m T G G.length) R) w) := by
 refine J_enter (fun _ => False) (vs := [Qdv (T : Nat) A G.length c A2 R.length c2 A3 W.length c3]) (k := 24) (l := [(0, Qdv (T : Nat) A G.length c A2 R.length c2 A3 W.length c3)]) Try.func79 rfl rfl Try.ntmps79 rfl rfl (Wd.start _) ?_
 refine J_seq ?_
 refine J_reg ?_
 refine JL_op (wn0 rfl) (ow_box (vs := [_, _, _, _]) rfl rfl rfl rfl rfl) (fun b1 hb1 => ?_)
 refine JN rfl rfl rfl rfl rfl ?_
 refine JL_nil ?_
 refine JQ_then_n ?_
 refine J_seq ?_
 refine J_reg ?_
 refine JN rfl rfl rfl rfl rfl ?_
 refine JL_nil ?_
 refine JQ_then_n ?_
 refine J_seq ?_
 refine J_seq ?_
 refine J_own0 3 1 ?_
 refine J_reg ?_
 refine JN rfl rfl rfl rfl rfl ?_
 refine JL_nil ?_
 refine JQ_then_n ?_
 refine J_block ?_
 refine J_loop (T := Nat × Option Addr × Nat) (fun q => q.1 ≤ R.length) (fun q => [(1, .pointer (some ⟨b1, 0, none⟩)), (3, .slice q.2.1 (plcL (tmM m T G G.length) (R.take q.1)).length q.2.2), (4, .int .i64 (q.1 : Nat))]) (fun q => [ownB 3 1 q.2.1 (plcL (tmM m T G G.length) (R.take q.1)).length q.2.2 ((plcL (tmM m T G G.length) (R.take q.1)).flatMap eI), cellB b1 [.int .i64 (T : Nat), .slice A G.length c, .slice A2 R.length c2, .slice A3 W.length c3] 77]) (fun q => R.length - q.1) (0, none, 0) (Nat.zero_le _) ⟨rfl, rfl, rfl, trivial⟩ (by repeat constructor) ?_
 rintro ⟨k, A5, c5⟩ hk
 dsimp only at hk ⊢
 refine J_seq ?_
 refine J_seq ?_
 refine J_reg ?_
 refine JM rfl rfl rfl rfl rfl ?_
 refine JP (rp_fieldC (off' := 0) rfl rfl fa_77_0 rfl) ?_
 refine JP (rp_fieldC (off' := 2) rfl rfl fa_25_2 rfl) ?_
 refine JV (rv_cell rfl rfl ag_23 (by repeat constructor) (by rfl)) ?_
 refine JP (rp1 rfl (fun ρ hx w => ex_len (A := _) (c := _) rfl Try.underlying23 hx)) ?_
 refine JP (rp2 rfl rfl (fun ρ hx hy w => ex_lssD rfl hx hy)) ?_
 refine JL_dec (fun h10 => ?_) (fun h10 => ?_)
 ·refine JL_nil ?_
  refine JQ_then_n ?_
  refine J_yes rfl rfl ?_
  refine J_skip ?_
  refine JQ_then_n ?_
  refine J_seq ?_
  refine J_block ?_
  have hlt : k < R.length := by omega
  have hpl : (plcL (tmM m T G G.length) (R.take k)).length ≤ 20 := by unfold plcL; rw [List.length_map, List.length_take]; omega
  obtain ⟨Ag1, cg1, eg1, -, -, hA1⟩ := id hq.r
  injection eg1 with e1 e2 e3
  subst e1 e3
  obtain ⟨b, p, rfl, hh⟩ := hA1 (by intro e; subst e; simp at hlt)
  refine J_keep (l' := [(1, _), (3, _), (4, _)]) ⟨rfl, rfl, rfl, trivial⟩ ?_
  refine J_drawX [] [1, 4, 7] [cellB b1 [.int .i64 (T : Nat), .slice A G.length c, .slice (some ⟨b, p, none⟩) R.length c2, .slice A3 W.length c3] 77] (by repeat constructor) (by kernel_rfl) ?_
  refine JAP (i := 0) rfl (rp_move rfl rfl) ?_
  refine JAX (i := 1) rfl (rv_agg (cs := [_, _, _, _]) rfl rfl ag_77 sz_77 (by repeat constructor) (by rfl)) ?_
  refine JAP (i := 2) rfl (rp_fieldC (off' := 0) rfl rfl fa_77_0 rfl) ?_
  refine JAP (i := 3) rfl (rp_fieldC (off' := 2) rfl rfl fa_25_2 rfl) ?_
  refine JAX (i := 4) rfl (rv_cell rfl rfl ag_23 (by repeat constructor) (by rfl)) ?_
  refine JAP (i := 5) rfl (rp_move rfl rfl) ?_
  refine JAP (i := 6) rfl (rp2 rfl rfl (fun ρ hx hy w => ex_indexE rfl hx hy Try.underlying23 sz_89 (by omega))) ?_
  refine JAX (i := 7) rfl (rv_holdagg (cs := [.int .i64 (R[k]'hlt).1, .int .i64 (R[k]'hlt).2]) EP rfl rfl ag_89 sz_89 (fun h => h) hh hlt rfl) ?_
  refine JA_one (i := 8) (by kernel_rfl) rfl (wn0 rfl) (ow_callB (ec_fn rfl rfl cf_93) rfl rfl (fun w hw => Known93 T G R W m hW hGl hgm (R[k]'hlt) G.length (hpl2 _ (List.getElem_mem hlt)) (by omega) w _ _ _ c c2 c3 (hq.up hw.bel))) trivial (fun _ _ => ?_)
  refine JA_one (i := 9) (by kernel_rfl) rfl (wn0 rfl) (ow_sliceC (vs := [_]) (ty := 3) rfl rfl (by rfl) rfl rfl (fun _ => by kernel_rfl)) trivial (fun b22 hb22 => ?_)
  refine JA_oneS (i := 10) (by kernel_rfl) rfl (wn0 rfl) (ow_app1 EI (by decide) (atM (tmM m T G G.length) (R[k]'hlt)) Try.underlying26 Try.info3 rfl (by decide) rfl rfl rfl rfl rfl (by repeat constructor) (by rfl) (by omega) (by intro A c; repeat constructor)) ⟨by kernel_rfl, .inr ⟨rfl, (by repeat constructor)⟩⟩ (fun A23 c23 => ?_)
  refine JAP (i := 11) rfl (rp_assign rfl rfl) ?_
  refine JA_done (by kernel_rfl) ?_
  refine JQ_block_n ?_
  refine JQ_then_n ?_
  refine J_keep (l' := [(1, _), (3, _), (4, _)]) ⟨rfl, rfl, rfl, trivial⟩ ?_
  refine J_reg ?_
  refine JM rfl rfl rfl rfl rfl ?_
  refine JP (rp2 rfl rfl (fun ρ hx hy w => ex_add rfl hx hy (by omega))) ?_
  refine JN rfl rfl rfl rfl rfl ?_
  refine JL_nil ?_
  exact JQ_round (k + 1, A23, c23) (by dsimp only; omega) (by dsimp only; omega) ⟨rfl, (by rw [plcL_snoc _ _ _ hlt]; rfl), (congrArg some (by go_num)), trivial⟩ (by (try dsimp only); rw [plcL_snoc _ _ _ hlt]; repeat (first | exact Pk.nil _ | (refine Pk.pick (by repeat (first | exact Rm.here _ | apply Rm.there)) ?_)))
 ·refine JL_nil ?_
  refine JQ_then_n ?_
  refine J_no rfl rfl ?_
  refine J_exit ?_
  refine JQ_then_x ?_
  refine JQ_then_x ?_
  refine JQ_block_y rfl ?_
  refine JQ_then_n ?_
  refine J_seq ?_
  refine J_keep (l' := [(3, _)]) ⟨rfl, trivial⟩ ?_
  refine J_reg ?_
  refine JM rfl rfl rfl rfl rfl ?_
  refine JN rfl rfl rfl rfl rfl ?_
  refine JL_nil ?_
  refine JQ_then_n ?_
  refine J_ret ?_
  refine JR_one rfl (rr_tmp rfl) ?_
  intro w' hw
  obtain rfl : k = R.length := by omega
  have e : plcL (tmM m T G G.length) (R.take R.length) = plcL (tmM m T G G.length) R := by rw [List.take_length]
  exact ⟨A5, c5, by rw [← e], (by rw [e] at hw; exact hw.pick (by repeat constructor))⟩
end Go.Proofs.Ytlfbbofcnonhdaa
