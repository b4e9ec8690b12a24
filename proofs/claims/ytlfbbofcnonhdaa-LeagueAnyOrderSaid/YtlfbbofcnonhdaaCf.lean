/- The document on playdowns: Known, Teams, Places, Ready. -/
import Derived.Test.YtlfbbofcnonhdaaPq
import Derived.Test.YtlfbbofcnonhdaaCa
import Derived.Test.YtlfbbofcnonhdaaCe
namespace Go.Proofs.Ytlfbbofcnonhdaa
open Go Go.RowKit Go.Proofs

/-- The document's playdown, as a value. -/
abbrev Qdv (T : Int) (A : Option Addr) (n c : Nat) (A2 : Option Addr) (n2 c2 : Nat) (A3 : Option Addr) (n3 c3 : Nat) : Value := .agg #[.int .i64 T, .slice A n c, .slice A2 n2 c2, .slice A3 n3 c3]
/-- Its results are those of a map. -/
structure WOk (G : List Gm) (m : Int → Option Int) (W : List Int) : Prop where
  len : W.length = G.length
  get : ∀ i (h : i < W.length), W[i]'h = (m (i : Nat)).getD (-1)
  v : ∀ i r, m i = some r → r = 0 ∨ r = 1
structure QdF (T : Nat) (G : List Gm) (R : List (Int × Int)) (W : List Int) (w : World) (A A2 A3 : Option Addr) (c c2 c3 : Nat) : Prop where
  g : Arr 4 eG w (.slice A G.length c) G
  r : Arr 2 eP w (.slice A2 R.length c2) R
  w : Arr 1 eI w (.slice A3 W.length c3) W
theorem QdF.up {T : Nat} {G : List Gm} {R : List (Int × Int)} {W : List Int} {w w' : World} {A A2 A3 : Option Addr} {c c2 c3 : Nat} (h : QdF T G R W w A A2 A3 c c2 c3) (hb : Below w.heap.size w w') : QdF T G R W w' A A2 A3 c c2 c3 := ⟨h.g.up EG hb, h.r.up EP hb, h.w.up EI hb⟩
set_option maxRecDepth 100000 in
set_option maxHeartbeats 4000000 in
theorem known_step (T : Nat) (G : List Gm) (R : List (Int × Int)) (W : List Int) (m : Int → Option Int) (hW : WOk G m W) (hGl : G.length ≤ 64) (hgm : ∀ i (h : i < G.length), rng (T : Nat) (G[i]'h).1 (i : Nat) ∧ rng (T : Nat) (G[i]'h).2 (i : Nat)) (n : Nat) (IH : ∀ i, i < n → ∀ x : Int × Int, rng (T : Nat) x (i : Nat) → i ≤ G.length → ∀ (w : World) (A A2 A3 : Option Addr) (c c2 c3 : Nat), QdF T G R W w A A2 A3 c c2 c3 → Calls Try.prog 93 #[Qdv (T : Nat) A G.length c A2 R.length c2 A3 W.length c3, Pv x.1 x.2] w (Back (.int .i64 (atM (tmM m T G G.length) x)) w)) (x : Int × Int) (hx : rng (T : Nat) x (n : Nat)) (hn : n ≤ G.length) (w : World) (A A2 A3 : Option Addr) (c c2 c3 : Nat) (hq : QdF T G R W w A A2 A3 c c2 c3) : Calls Try.prog 93 #[Qdv (T : Nat) A G.length c A2 R.length c2 A3 W.length c3, Pv x.1 x.2] w (Back (.int .i64 (atM (tmM m T G G.length) x)) w) := by
 refine J_enter (fun _ => False) (vs := [Qdv (T : Nat) A G.length c A2 R.length c2 A3 W.length c3, Pv x.1 x.2]) (k := 38) (l := [(0, Qdv (T : Nat) A G.length c A2 R.length c2 A3 W.length c3), (1, Pv x.1 x.2)]) Try.func93 rfl rfl Try.ntmps93 rfl rfl (Wd.start _) ?_
 refine J_seq ?_
 refine J_reg ?_
 refine JL_op (wn0 rfl) (ow_box (vs := [_, _, _, _]) rfl rfl rfl rfl rfl) (fun b2 hb2 => ?_)
 refine JL_op (wn0 rfl) (ow_box (vs := [_, _]) rfl rfl rfl rfl rfl) (fun b3 hb3 => ?_)
 refine JN rfl rfl rfl rfl rfl ?_
 refine JL_nil ?_
 refine JQ_then_n ?_
 refine J_seq ?_
 refine J_seq ?_
 refine J_reg ?_
 refine JP (rp_fieldC (off' := 0) rfl rfl fa_89_0 rfl) ?_
 refine JV (rv_cell rfl rfl ag_3 (by repeat constructor) (by rfl)) ?_
 refine JP (rp2 rfl rfl (fun ρ hx hy w => ex_eqlD rfl hx hy)) ?_
 refine JL_dec (fun h8 => ?_) (fun h8 => ?_)
 ·refine JL_nil ?_
  refine JQ_then_n ?_
  refine J_yes rfl rfl ?_
  refine J_seq ?_
  refine J_reg ?_
  refine JP (rp_fieldC (off' := 1) rfl rfl fa_89_1 rfl) ?_
  refine JV (rv_cell rfl rfl ag_3 (by repeat constructor) (by rfl)) ?_
  refine JN rfl rfl rfl rfl rfl ?_
  refine JL_nil ?_
  refine JQ_then_n ?_
  refine J_ret ?_
  refine JQ_then_r ?_
  refine JR_one rfl (rr_tmp rfl) ?_
  intro w' hw
  have e : atM (tmM m T G G.length) x = x.2 := by
    obtain ⟨x1, x2⟩ := x
    have h8' : x1 = 0 := h8
    subst h8'
    unfold rng at hx
    dsimp only at hx
    rw [if_pos rfl] at hx
    unfold atM
    rw [tm_seed m T G x2 (by omega)]; rfl
  rw [e]
  exact ⟨rfl, hw.bel⟩
 ·obtain ⟨i, hi⟩ := Int.eq_ofNat_of_zero_le (show 0 ≤ x.2 by unfold rng at hx; rw [if_neg h8] at hx; omega)
  have hxn : i < n := by unfold rng at hx; rw [if_neg h8] at hx; omega
  have hltW : i < W.length := by rw [hW.len]; omega
  have hlt : i < G.length := by omega
  obtain ⟨v, hWv⟩ : ∃ v, W[i]'hltW = v := ⟨_, rfl⟩
  have hWm : v = (m ((i : Nat) : Int)).getD (-1) := by rw [← hWv]; exact hW.get i hltW
  have hxe : x = (x.1, ((i : Nat) : Int)) := Prod.ext rfl hi
  have hx1 : x.1 = 1 ∨ x.1 = 2 := by unfold rng at hx; rw [if_neg h8] at hx; omega
  have hrec := tm_rec hW.v hgm hlt x.1 hx1
  obtain ⟨Ag3, cg3, eg3, -, -, hA3⟩ := id hq.w
  injection eg3 with e1 e2 e3
  subst e1 e3
  obtain ⟨bw, pw, rfl, hhW⟩ := hA3 (by intro e; subst e; simp at hltW)
  obtain ⟨Ag1, cg1, eg1, -, -, hA1⟩ := id hq.g
  injection eg1 with e1 e2 e3
  subst e1 e3
  obtain ⟨b, p, rfl, hh⟩ := hA1 (by intro e; subst e; simp at hlt)
  obtain ⟨g, hg⟩ : ∃ g, G[i]'hlt = g := ⟨_, rfl⟩
  obtain ⟨hg1, hg2⟩ := hgm i hlt
  rw [hg] at hg1 hg2 hrec
  refine JL_nil ?_
  refine JQ_then_n ?_
  refine J_no rfl rfl ?_
  refine J_skip ?_
  refine JQ_then_n ?_
  refine J_seq ?_
  refine J_seq ?_
  refine J_reg ?_
  refine JP (rp_fieldC (off' := 3) rfl rfl fa_77_1 rfl) ?_
  refine JV (rv_cell rfl rfl ag_26 (by repeat constructor) (by rfl)) ?_
  refine JP (rp_fieldC (off' := 1) rfl rfl fa_89_1 rfl) ?_
  refine JV (rv_cell rfl rfl ag_3 (by repeat constructor) (by rfl)) ?_
  refine JP (rp2 rfl rfl (fun ρ hx hy w => ex_indexI (k := i) rfl hx hy hi Try.underlying26 sz_3 (by omega))) ?_
  refine JV (rv_hold (j := i) rfl rfl ag_3 (fun h => h) hhW hltW (by omega) (by rw [hWv]; rfl)) ?_
  refine JP (rp2 rfl rfl (fun ρ hx hy w => ex_lssD rfl hx hy)) ?_
  refine JL_dec (fun h17 => ?_) (fun h17 => ?_)
  ·refine JL_nil ?_
   refine JQ_then_n ?_
   refine J_yes rfl rfl ?_
   refine J_seq ?_
   refine J_reg ?_
   refine JN rfl rfl rfl rfl rfl ?_
   refine JL_nil ?_
   refine JQ_then_n ?_
   refine J_ret ?_
   refine JQ_then_r ?_
   refine JR_one rfl (rr_tmp rfl) ?_
   intro w' hw
   have e : atM (tmM m T G G.length) x = -1 := by
     have hmn : m ((i : Nat) : Int) = none := by
       cases hm : m ((i : Nat) : Int) with
       | none => rfl
       | some r => rw [hm] at hWm; have := hW.v _ _ hm; simp only [Option.getD_some] at hWm; omega
     unfold atM
     rw [hxe, hrec, hmn]; rfl
   rw [e]
   exact ⟨rfl, hw.bel⟩
  ·refine JL_nil ?_
   refine JQ_then_n ?_
   refine J_no rfl rfl ?_
   refine J_skip ?_
   refine JQ_then_n ?_
   refine J_seq ?_
   refine J_reg ?_
   refine JP (rp_fieldC (off' := 3) rfl rfl fa_77_1 rfl) ?_
   refine JV (rv_cell rfl rfl ag_26 (by repeat constructor) (by rfl)) ?_
   refine JP (rp_fieldC (off' := 1) rfl rfl fa_89_1 rfl) ?_
   refine JV (rv_cell rfl rfl ag_3 (by repeat constructor) (by rfl)) ?_
   refine JP (rp2 rfl rfl (fun ρ hx hy w => ex_indexI (k := i) rfl hx hy hi Try.underlying26 sz_3 (by omega))) ?_
   refine JV (rv_hold (j := i) rfl rfl ag_3 (fun h => h) hhW hltW (by omega) (by rw [hWv]; rfl)) ?_
   refine JN rfl rfl rfl rfl rfl ?_
   refine JL_nil ?_
   refine JQ_then_n ?_
   refine J_seq ?_
   refine J_seq ?_
   obtain ⟨r, hmr⟩ : ∃ r, m ((i : Nat) : Int) = some r := by
     cases hm : m ((i : Nat) : Int) with
     | none => rw [hm] at hWm; simp only [Option.getD_none] at hWm; omega
     | some r => exact ⟨r, rfl⟩
   have hvr : v = r := by rw [hWm, hmr]; rfl
   subst hvr
   obtain rfl | rfl := hW.v _ _ hmr
   ·refine J_reg ?_
    refine JP (rp_fieldC (off' := 0) rfl rfl fa_89_0 rfl) ?_
    refine JV (rv_cell rfl rfl ag_3 (by repeat constructor) (by rfl)) ?_
    refine JP (rp2 rfl rfl (fun ρ hx hy w => ex_eqlD rfl hx hy)) ?_
    refine JL_dec (fun h26 => ?_) (fun h26 => ?_)
    ·refine JL_nil ?_
     refine JQ_then_n ?_
     refine J_yes rfl rfl ?_
     refine J_reg ?_
     refine JM rfl rfl rfl rfl rfl ?_
     refine JP (rp2 rfl rfl (fun ρ hx hy w => ex_sub rfl hx hy (by omega))) ?_
     refine JN rfl rfl rfl rfl rfl ?_
     refine JL_nil ?_
     refine JQ_then_n ?_
     refine J_seq ?_
     have hfin : atM (tmM m T G G.length) x = atM (tmM m T G G.length) g.2 := by
       unfold atM
       rw [hxe, hrec, hmr]
       dsimp only
       rw [if_pos h26]
       rfl
     refine J_draw [0, 3, 5, 9] (by kernel_rfl) ?_
     refine JAL (i := 0) rfl (rv_agg (cs := [_, _, _, _]) rfl rfl ag_77 sz_77 (by repeat constructor) (by rfl)) ?_
     refine JAP (i := 1) rfl (rp_fieldC (off' := 0) rfl rfl fa_77_0 rfl) ?_
     refine JAP (i := 2) rfl (rp_fieldC (off' := 1) rfl rfl fa_25_1 rfl) ?_
     refine JAL (i := 3) rfl (rv_cell rfl rfl ag_22 (by repeat constructor) (by rfl)) ?_
     refine JAP (i := 4) rfl (rp_fieldC (off' := 1) rfl rfl fa_89_1 rfl) ?_
     refine JAL (i := 5) rfl (rv_cell rfl rfl ag_3 (by repeat constructor) (by rfl)) ?_
     refine JAP (i := 6) rfl (rp_move rfl rfl) ?_
     refine JAP (i := 7) rfl (rp2 rfl rfl (fun ρ hx hy w => ex_indexI (k := i) rfl hx hy hi Try.underlying22 sz_90 (by omega))) ?_
     refine JAP (i := 8) rfl (rp_arrE (i' := 2) rfl rfl rfl ia_90_1 rfl) ?_
     refine JAL (i := 9) rfl (rv_holdpart (j := i) (i := 2) (m := 2) (cs := [.int .i64 g.2.1, .int .i64 g.2.2]) EG rfl rfl ag_89 sz_89 (fun h => h) hh hlt (by omega) (by rw [hg]; rfl)) ?_
     refine JA_one (i := 10) (by kernel_rfl) rfl (wn0 rfl) (ow_callB (ec_fn rfl rfl cf_93) rfl rfl (fun w hw => IH i hxn g.2 hg2 (by omega) w _ _ _ c c2 c3 (hq.up hw.bel))) trivial (fun _ _ => ?_)
     refine JAP (i := 11) rfl (rp_assign rfl rfl) ?_
     refine JA_done (by kernel_rfl) ?_
     refine JQ_then_n ?_
     refine J_ret ?_
     refine JR_one rfl (rr_tmp rfl) ?_
     intro w' hw
     rw [hfin]
     exact ⟨rfl, hw.bel⟩
    ·refine JL_nil ?_
     refine JQ_then_n ?_
     refine J_no rfl rfl ?_
     refine J_skip ?_
     refine JQ_then_n ?_
     refine J_seq ?_
     have hfin : atM (tmM m T G G.length) x = atM (tmM m T G G.length) g.1 := by
       unfold atM
       rw [hxe, hrec, hmr]
       dsimp only
       rw [if_neg h26]
       rfl
     refine J_draw [0, 3, 5, 9] (by kernel_rfl) ?_
     refine JAL (i := 0) rfl (rv_agg (cs := [_, _, _, _]) rfl rfl ag_77 sz_77 (by repeat constructor) (by rfl)) ?_
     refine JAP (i := 1) rfl (rp_fieldC (off' := 0) rfl rfl fa_77_0 rfl) ?_
     refine JAP (i := 2) rfl (rp_fieldC (off' := 1) rfl rfl fa_25_1 rfl) ?_
     refine JAL (i := 3) rfl (rv_cell rfl rfl ag_22 (by repeat constructor) (by rfl)) ?_
     refine JAP (i := 4) rfl (rp_fieldC (off' := 1) rfl rfl fa_89_1 rfl) ?_
     refine JAL (i := 5) rfl (rv_cell rfl rfl ag_3 (by repeat constructor) (by rfl)) ?_
     refine JAP (i := 6) rfl (rp_move rfl rfl) ?_
     refine JAP (i := 7) rfl (rp2 rfl rfl (fun ρ hx hy w => ex_indexI (k := i) rfl hx hy hi Try.underlying22 sz_90 (by omega))) ?_
     refine JAP (i := 8) rfl (rp_arrE (i' := 0) rfl rfl rfl ia_90_0 rfl) ?_
     refine JAL (i := 9) rfl (rv_holdpart (j := i) (i := 0) (m := 2) (cs := [.int .i64 g.1.1, .int .i64 g.1.2]) EG rfl rfl ag_89 sz_89 (fun h => h) hh hlt (by omega) (by rw [hg]; rfl)) ?_
     refine JA_one (i := 10) (by kernel_rfl) rfl (wn0 rfl) (ow_callB (ec_fn rfl rfl cf_93) rfl rfl (fun w hw => IH i hxn g.1 hg1 (by omega) w _ _ _ c c2 c3 (hq.up hw.bel))) trivial (fun _ _ => ?_)
     refine JAP (i := 11) rfl (rp_assign rfl rfl) ?_
     refine JA_done (by kernel_rfl) ?_
     refine JQ_then_n ?_
     refine J_ret ?_
     refine JR_one rfl (rr_tmp rfl) ?_
     intro w' hw
     rw [hfin]
     exact ⟨rfl, hw.bel⟩
   ·refine J_reg ?_
    refine JP (rp_fieldC (off' := 0) rfl rfl fa_89_0 rfl) ?_
    refine JV (rv_cell rfl rfl ag_3 (by repeat constructor) (by rfl)) ?_
    refine JP (rp2 rfl rfl (fun ρ hx hy w => ex_eqlD rfl hx hy)) ?_
    refine JL_dec (fun h26 => ?_) (fun h26 => ?_)
    ·refine JL_nil ?_
     refine JQ_then_n ?_
     refine J_yes rfl rfl ?_
     refine J_reg ?_
     refine JM rfl rfl rfl rfl rfl ?_
     refine JP (rp2 rfl rfl (fun ρ hx hy w => ex_sub rfl hx hy (by omega))) ?_
     refine JN rfl rfl rfl rfl rfl ?_
     refine JL_nil ?_
     refine JQ_then_n ?_
     refine J_seq ?_
     have hfin : atM (tmM m T G G.length) x = atM (tmM m T G G.length) g.1 := by
       unfold atM
       rw [hxe, hrec, hmr]
       dsimp only
       rw [if_pos h26]
       rfl
     refine J_draw [0, 3, 5, 9] (by kernel_rfl) ?_
     refine JAL (i := 0) rfl (rv_agg (cs := [_, _, _, _]) rfl rfl ag_77 sz_77 (by repeat constructor) (by rfl)) ?_
     refine JAP (i := 1) rfl (rp_fieldC (off' := 0) rfl rfl fa_77_0 rfl) ?_
     refine JAP (i := 2) rfl (rp_fieldC (off' := 1) rfl rfl fa_25_1 rfl) ?_
     refine JAL (i := 3) rfl (rv_cell rfl rfl ag_22 (by repeat constructor) (by rfl)) ?_
     refine JAP (i := 4) rfl (rp_fieldC (off' := 1) rfl rfl fa_89_1 rfl) ?_
     refine JAL (i := 5) rfl (rv_cell rfl rfl ag_3 (by repeat constructor) (by rfl)) ?_
     refine JAP (i := 6) rfl (rp_move rfl rfl) ?_
     refine JAP (i := 7) rfl (rp2 rfl rfl (fun ρ hx hy w => ex_indexI (k := i) rfl hx hy hi Try.underlying22 sz_90 (by omega))) ?_
     refine JAP (i := 8) rfl (rp_arrE (i' := 0) rfl rfl rfl ia_90_0 rfl) ?_
     refine JAL (i := 9) rfl (rv_holdpart (j := i) (i := 0) (m := 2) (cs := [.int .i64 g.1.1, .int .i64 g.1.2]) EG rfl rfl ag_89 sz_89 (fun h => h) hh hlt (by omega) (by rw [hg]; rfl)) ?_
     refine JA_one (i := 10) (by kernel_rfl) rfl (wn0 rfl) (ow_callB (ec_fn rfl rfl cf_93) rfl rfl (fun w hw => IH i hxn g.1 hg1 (by omega) w _ _ _ c c2 c3 (hq.up hw.bel))) trivial (fun _ _ => ?_)
     refine JAP (i := 11) rfl (rp_assign rfl rfl) ?_
     refine JA_done (by kernel_rfl) ?_
     refine JQ_then_n ?_
     refine J_ret ?_
     refine JR_one rfl (rr_tmp rfl) ?_
     intro w' hw
     rw [hfin]
     exact ⟨rfl, hw.bel⟩
    ·refine JL_nil ?_
     refine JQ_then_n ?_
     refine J_no rfl rfl ?_
     refine J_skip ?_
     refine JQ_then_n ?_
     refine J_seq ?_
     have hfin : atM (tmM m T G G.length) x = atM (tmM m T G G.length) g.2 := by
       unfold atM
       rw [hxe, hrec, hmr]
       dsimp only
       rw [if_neg h26]
       rfl
     refine J_draw [0, 3, 5, 9] (by kernel_rfl) ?_
     refine JAL (i := 0) rfl (rv_agg (cs := [_, _, _, _]) rfl rfl ag_77 sz_77 (by repeat constructor) (by rfl)) ?_
     refine JAP (i := 1) rfl (rp_fieldC (off' := 0) rfl rfl fa_77_0 rfl) ?_
     refine JAP (i := 2) rfl (rp_fieldC (off' := 1) rfl rfl fa_25_1 rfl) ?_
     refine JAL (i := 3) rfl (rv_cell rfl rfl ag_22 (by repeat constructor) (by rfl)) ?_
     refine JAP (i := 4) rfl (rp_fieldC (off' := 1) rfl rfl fa_89_1 rfl) ?_
     refine JAL (i := 5) rfl (rv_cell rfl rfl ag_3 (by repeat constructor) (by rfl)) ?_
     refine JAP (i := 6) rfl (rp_move rfl rfl) ?_
     refine JAP (i := 7) rfl (rp2 rfl rfl (fun ρ hx hy w => ex_indexI (k := i) rfl hx hy hi Try.underlying22 sz_90 (by omega))) ?_
     refine JAP (i := 8) rfl (rp_arrE (i' := 2) rfl rfl rfl ia_90_1 rfl) ?_
     refine JAL (i := 9) rfl (rv_holdpart (j := i) (i := 2) (m := 2) (cs := [.int .i64 g.2.1, .int .i64 g.2.2]) EG rfl rfl ag_89 sz_89 (fun h => h) hh hlt (by omega) (by rw [hg]; rfl)) ?_
     refine JA_one (i := 10) (by kernel_rfl) rfl (wn0 rfl) (ow_callB (ec_fn rfl rfl cf_93) rfl rfl (fun w hw => IH i hxn g.2 hg2 (by omega) w _ _ _ c c2 c3 (hq.up hw.bel))) trivial (fun _ _ => ?_)
     refine JAP (i := 11) rfl (rp_assign rfl rfl) ?_
     refine JA_done (by kernel_rfl) ?_
     refine JQ_then_n ?_
     refine J_ret ?_
     refine JR_one rfl (rr_tmp rfl) ?_
     intro w' hw
     rw [hfin]
     exact ⟨rfl, hw.bel⟩
theorem Known93 (T : Nat) (G : List Gm) (R : List (Int × Int)) (W : List Int) (m : Int → Option Int) (hW : WOk G m W) (hGl : G.length ≤ 64) (hgm : ∀ i (h : i < G.length), rng (T : Nat) (G[i]'h).1 (i : Nat) ∧ rng (T : Nat) (G[i]'h).2 (i : Nat)) (x : Int × Int) (n : Nat) (hx : rng (T : Nat) x (n : Nat)) (hn : n ≤ G.length) (w : World) (A A2 A3 : Option Addr) (c c2 c3 : Nat) (hq : QdF T G R W w A A2 A3 c c2 c3) : Calls Try.prog 93 #[Qdv (T : Nat) A G.length c A2 R.length c2 A3 W.length c3, Pv x.1 x.2] w (Back (.int .i64 (atM (tmM m T G G.length) x)) w) := by
  have : ∀ n, ∀ x : Int × Int, rng (T : Nat) x (n : Nat) → n ≤ G.length → ∀ (w : World) (A A2 A3 : Option Addr) (c c2 c3 : Nat), QdF T G R W w A A2 A3 c c2 c3 → Calls Try.prog 93 #[Qdv (T : Nat) A G.length c A2 R.length c2 A3 W.length c3, Pv x.1 x.2] w (Back (.int .i64 (atM (tmM m T G G.length) x)) w) := by
    intro n
    induction n using Nat.strongRecOn with
    | _ n ih => exact fun x hx hn w A A2 A3 c c2 c3 hq => known_step T G R W m hW hGl hgm n ih x hx hn w A A2 A3 c c2 c3 hq
  exact this n x hx hn w A A2 A3 c c2 c3 hq
end Go.Proofs.Ytlfbbofcnonhdaa
