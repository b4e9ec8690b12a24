/- LeagueLives: the walk. -/
import Derived.Test.YtlfbbofcnonhdaaPn
import Derived.Test.YtlfbbofcnonhdaaBp
namespace Go.Proofs.Ytlfbbofcnonhdaa
open Go Go.RowKit Go.Proofs

set_option maxRecDepth 100000 in
set_option maxHeartbeats 4000000 in
theorem Lives_law (T : Int) (A : Option Addr) (n c : Nat) (A2 : Option Addr) (n2 c2 : Nat) (w : World) (h1 : RowP 1 eI W64 w A n c) (h2 : RowQ 1 eB (fun _ => True) w A2 n2) : Calls Try.prog 9 #[.int .i64 T, .slice A n c, .slice A2 n2 c2] w (Back (.bool true) w) := by
 refine J_enter (fun _ => False) (vs := [.int .i64 T, .slice A n c, .slice A2 n2 c2]) (k := 161) (l := [(0, .int .i64 T), (1, .slice A n c), (2, .slice A2 n2 c2)]) Try.func9 rfl rfl Try.ntmps9 rfl rfl (Wd.start _) ?_
 refine J_seq ?_
 refine J_reg ?_
 refine JN rfl rfl rfl rfl rfl ?_
 refine JL_nil ?_
 refine JQ_then_n ?_
 refine J_seq ?_
 refine J_seq ?_
 refine J_reg ?_
 refine JM rfl rfl rfl rfl rfl ?_
 refine JL_val rfl (wn0 rfl) (RP.rv (rp1 rfl (fun ρ hx w => ex_len (A := _) (c := _) rfl Try.underlying26 hx))) rfl ?_
 refine JL_val rfl (wn0 rfl) (RP.rv (rp2 rfl rfl (fun ρ hx hy w => ex_gtrD rfl hx hy))) rfl ?_
 refine JL_dec (fun h24 => ?_) (fun h24 => ?_)
 ·refine JL_nil ?_
  refine JQ_then_n ?_
  refine J_yes rfl rfl ?_
  refine J_seq ?_
  refine J_keep (l' := []) trivial ?_
  refine J_reg ?_
  refine JL_op (wn0 rfl) (ow_callB (ec_fn rfl rfl cf_14) rfl rfl (fun w hw => awake14 w)) (fun _ _ => ?_)
  refine JN rfl rfl rfl rfl rfl ?_
  refine JL_nil ?_
  refine JQ_then_n ?_
  refine J_ret ?_
  refine JQ_then_r ?_
  refine JR_one rfl (rr_tmp rfl) ?_
  intro w' hw
  exact ⟨rfl, hw.bel⟩
 ·refine JL_nil ?_
  refine JQ_then_n ?_
  refine J_no rfl rfl ?_
  refine J_skip ?_
  refine JQ_then_n ?_
  refine J_seq ?_
  obtain ⟨tk, rfl, hq, -⟩ := h1 (by omega)
  obtain ⟨-, ws, rfl, hA2, -⟩ := h2
  obtain ⟨⟨ke, kt, kg, kr⟩, hk⟩ : ∃ q, koR T tk = q := ⟨_, rfl⟩
  have hkn := ko_nil (T := T) (tk := tk)
  have hkT := ko_T (T := T) (tk := tk)
  have hkb := ko_ok (T := T) (tk := tk)
  rw [hk] at hkn hkT hkb
  dsimp only at hkn hkT hkb
  refine J_keep (l' := [(0, _), (1, _), (2, _)]) ⟨rfl, rfl, rfl, trivial⟩ ?_
  refine J_reg ?_
  refine JM rfl rfl rfl rfl rfl ?_
  refine JM rfl rfl rfl rfl rfl ?_
  refine JL_op (wn0 rfl) (ow_callR (φ := fun _ : BrT => True) (V := fun t => .tuple #[Brv kt t.A kg.length t.c t.A2 kr.length t.c2, .int .i64 ke]) (G := BrG kg kr) (ec_fn rfl rfl cf_15) rfl rfl (fun _ => rfl) (fun w hw => by have := Knockout15 T tk _ w (hq.up EI hw.bel); rw [hk] at this; exact this)) (fun t29 _ => ?_)
  dsimp only [BrG, List.cons_append, List.nil_append]
  refine JM rfl rfl rfl rfl rfl ?_
  refine JL_val rfl (wn0 rfl) (RP.rv (rp_run1 (f := fun u => Instr.extract u 0) (fun _ => rfl) rfl (fun _ => rfl))) rfl ?_
  refine JL_val rfl (wn0 rfl) (RP.rv (rp_run1 (f := fun u => Instr.extract u 1) (fun _ => rfl) rfl (fun _ => rfl))) rfl ?_
  refine JL_op (wn0 rfl) (ow_alloc rfl rfl zv_25 rfl rfl) (fun b7 hb7 => ?_)
  refine JL_op (wn0 rfl) (ow_store (cs := [_, _, _]) (vs' := [_, _, _]) rfl rfl rfl rfl rfl sz_25 rfl (by repeat (first | exact At.here _ | apply At.there)) (by rfl) (by rfl)) (fun _ _ => ?_)
  refine JN rfl rfl rfl rfl rfl ?_
  refine JL_nil ?_
  refine JQ_then_n ?_
  refine J_seq ?_
  refine J_seq ?_
  refine J_keep (l' := [(0, _), (1, _), (2, _), (7, _), (8, _)]) ⟨rfl, rfl, rfl, rfl, rfl, trivial⟩ ?_
  refine J_reg ?_
  refine JM rfl rfl rfl rfl rfl ?_
  refine JL_val rfl (wn0 rfl) (RP.rv (rp2 rfl rfl (fun ρ hx hy w => ex_neq29 rfl hx hy))) rfl ?_
  refine JL_dec (fun h33 => ?_) (fun h33 => ?_)
  ·refine JL_nil ?_
   refine JQ_then_n ?_
   refine J_yes rfl rfl ?_
   refine J_seq ?_
   refine J_keep (l' := [(7, _)]) ⟨rfl, trivial⟩ ?_
   refine J_reg ?_
   refine JL_val rfl (wn0 rfl) (RP.rv (rp_fieldC (off' := 1) rfl rfl fa_25_1 rfl)) rfl ?_
   refine JL_val rfl (wn0 rfl) (rv_cell rfl rfl ag_22 (by repeat (first | exact List.Mem.head _ | apply List.Mem.tail)) (by rfl)) rfl ?_
   refine JL_val rfl (wn0 rfl) (RP.rv (rp1 rfl (fun ρ hx w => ex_len (A := _) (c := _) rfl Try.underlying22 hx))) rfl ?_
   refine JL_val rfl (wn0 rfl) (RP.rv (rp2 rfl rfl (fun ρ hx hy w => ex_eqlD rfl hx hy))) rfl ?_
   refine JL_decT (by have := hkn h33; rw [this]; rfl) ?_
   refine JM rfl rfl rfl rfl rfl ?_
   refine JL_op (wn_g rfl rfl rfl rfl) (ow_callB (ec_fn rfl rfl cf_14) rfl rfl (fun w hw => awake14 w)) (fun _ _ => ?_)
   refine JL_val rfl (wn0 rfl) (RP.rv (rp_pickT rfl rfl rfl)) rfl ?_
   refine JN rfl rfl rfl rfl rfl ?_
   refine JL_nil ?_
   refine JQ_then_n ?_
   refine J_ret ?_
   refine JQ_then_r ?_
   refine JR_one rfl (rr_tmp rfl) ?_
   intro w' hw
   exact ⟨rfl, hw.bel⟩
  ·refine JL_nil ?_
   refine JQ_then_n ?_
   refine J_no rfl rfl ?_
   refine J_skip ?_
   refine JQ_then_n ?_
   refine J_seq ?_
   have hke : ke = 0 := by omega
   obtain ⟨hkt, hqb⟩ := hkT hke
   have hbo := hkb hke
   have hbt := hbo.t
   obtain ⟨N, hN⟩ := Int.eq_ofNat_of_zero_le (show 0 ≤ T by omega)
   subst hN
   subst hkt
   have hlv := lv_ok (wn := wonN ws) (wonN_v ws) (T := N) (tk := tk) (by rw [hk]; exact hke)
   rw [hk] at hlv
   dsimp only at hlv
   have hbw := hbo.w
   have hcb := (cbB_iff _ _ _).2 hbo
   have hbg := hbo.g
   have hbr := hbo.r
   refine J_reg ?_
   refine JL_val rfl (wn0 rfl) (rv_agg (cs := [_, _, _]) rfl rfl ag_25 sz_25 (by repeat (first | exact List.Mem.head _ | apply List.Mem.tail)) (by rfl)) rfl ?_
   refine JL_op (wn0 rfl) (ow_callR (ec_fn rfl rfl cf_34) rfl rfl (fun _ => rfl) (fun w hw => New34 (N : Nat) kg kr w t29.A t29.A2 t29.c t29.c2 (Arr.of_own EG (hw.ok (ownB 90 4 t29.A kg.length t29.c (kg.flatMap eG)) (by repeat (first | exact List.Mem.head _ | apply List.Mem.tail))).1 (by omega)) (Arr.of_own EP (hw.ok (ownB 89 2 t29.A2 kr.length t29.c2 (kr.flatMap eP)) (by repeat (first | exact List.Mem.head _ | apply List.Mem.tail))).1 (by omega)) hbw.1 hbw.2 hcb ⟨by omega, by omega⟩)) (fun t43 _ => ?_)
   dsimp only [PdG, List.cons_append, List.nil_append]
   refine JM rfl rfl rfl rfl rfl ?_
   refine JL_val rfl (wn0 rfl) (RP.rv (rp_run1 (f := fun u => Instr.extract u 0) (fun _ => rfl) rfl (fun _ => rfl))) rfl ?_
   refine JL_val rfl (wn0 rfl) (RP.rv (rp_run1 (f := fun u => Instr.extract u 1) (fun _ => rfl) rfl (fun _ => rfl))) rfl ?_
   refine JN rfl rfl rfl rfl rfl ?_
   refine JN rfl rfl rfl rfl rfl ?_
   refine JL_nil ?_
   refine JQ_then_n ?_
   refine J_seq ?_
   refine J_seq ?_
   refine J_keep (l' := [(0, _), (1, _), (2, _), (7, _), (9, _), (10, _)]) ⟨rfl, rfl, rfl, rfl, rfl, rfl, trivial⟩ ?_
   refine J_reg ?_
   refine JM rfl rfl rfl rfl rfl ?_
   refine JL_val rfl (wn0 rfl) (RP.rv (rp2 rfl rfl (fun ρ hx hy w => ex_neq29 rfl hx hy))) rfl ?_
   refine JL_decF (by omega) ?_
   refine JM rfl rfl rfl rfl rfl ?_
   refine JL_val rfl (wn_g rfl rfl rfl rfl) (RP.rv (rp_move rfl rfl)) rfl ?_
   refine JL_val rfl (wn_g rfl rfl rfl rfl) (RP.rv (rp2 rfl rfl (fun ρ hx hy w => ex_eqlPtr rfl hx hy))) rfl ?_
   refine JL_boolF rfl ?_
   refine JL_val rfl (wn0 rfl) (RP.rv (rp_pickF rfl rfl rfl)) rfl ?_
   refine JL_nil ?_
   refine JQ_then_n ?_
   refine J_no rfl rfl ?_
   refine J_skip ?_
   refine JQ_then_n ?_
   refine J_seq ?_
   refine J_keep (l' := [(0, _), (1, _), (2, _), (7, _), (9, _)]) ⟨rfl, rfl, rfl, rfl, rfl, trivial⟩ ?_
   refine J_reg ?_
   refine JL_op (wn0 rfl) (ow_makeMap (kt := 3) (e := 3) (kv := kI) (ok := W64) (ed := dI) rfl rfl rfl (fun _ => by kernel_rfl)) (fun b52 hb52 => ?_)
   refine JN rfl rfl rfl rfl rfl ?_
   refine JL_nil ?_
   refine JQ_then_n ?_
   refine J_seq ?_
   refine J_seq ?_
   refine J_reg ?_
   refine JN rfl rfl rfl rfl rfl ?_
   refine JL_nil ?_
   refine JQ_then_n ?_
   refine J_block ?_
   refine J_loop (T := Nat × Nat) (fun q => q.1 ≤ kg.length) (fun q => [(0, .int .i64 (N : Nat)), (1, .slice A tk.length c), (2, .slice A2 ws.length c2), (7, .pointer (some ⟨b7, 0, none⟩)), (9, .pointer (some ⟨t43.bp, 0, none⟩)), (11, .map (some b52)), (12, .int .i64 (q.1 : Nat))]) (fun q => [cellB b7 [.int .i64 (N : Nat), .slice t29.A kg.length t29.c, .slice t29.A2 kr.length t29.c2] 25, ownB 90 4 t29.A kg.length t29.c (kg.flatMap eG), ownB 89 2 t29.A2 kr.length t29.c2 (kr.flatMap eP), cellB t43.bp [.int .i64 (N : Nat), .slice t43.A kg.length t43.c, .slice t43.A2 kr.length t43.c2, .map (some t43.bm)] 86, ownB 90 4 t43.A kg.length t43.c (kg.flatMap eG), ownB 89 2 t43.A2 kr.length t43.c2 (kr.flatMap eP), resB t43.bm q.1 (rmF (wonN ws) q.1), mapB 3 3 kI W64 dI b52 q.1 q.2 (lmF (wonN ws) N kg q.1)]) (fun q => kg.length - q.1) (0, 0) (Nat.zero_le _) ⟨rfl, rfl, rfl, rfl, rfl, rfl, rfl, trivial⟩ (by repeat (first | exact Pk.nil _ | (refine Pk.pick (by repeat (first | exact Rm.here _ | apply Rm.there)) ?_))) ?_
   rintro ⟨i, cc⟩ hi
   dsimp only at hi ⊢
   refine J_seq ?_
   refine J_seq ?_
   refine J_reg ?_
   refine JM rfl rfl rfl rfl rfl ?_
   refine JL_val rfl (wn0 rfl) (RP.rv (rp_fieldC (off' := 1) rfl rfl fa_25_1 rfl)) rfl ?_
   refine JL_val rfl (wn0 rfl) (rv_cell rfl rfl ag_22 (by repeat (first | exact List.Mem.head _ | apply List.Mem.tail)) (by rfl)) rfl ?_
   refine JL_val rfl (wn0 rfl) (RP.rv (rp1 rfl (fun ρ hx w => ex_len (A := _) (c := _) rfl Try.underlying22 hx))) rfl ?_
   refine JL_val rfl (wn0 rfl) (RP.rv (rp2 rfl rfl (fun ρ hx hy w => ex_lssD rfl hx hy))) rfl ?_
   refine JL_dec (fun h57 => ?_) (fun h57 => ?_)
   ·refine JL_nil ?_
    refine JQ_then_n ?_
    refine J_yes rfl rfl ?_
    refine J_skip ?_
    refine JQ_then_n ?_
    refine J_seq ?_
    refine J_block ?_
    refine J_seq ?_
    have hlt : i < kg.length := by omega
    obtain ⟨a, bq, ga, gb, gne, gab, gbb⟩ := hlv.gd i hlt
    obtain ⟨g, hg⟩ : ∃ g, kg[i]'hlt = g := ⟨_, rfl⟩
    rw [hg] at ga gb
    have hgd : kg.getD i ((0, 0), (0, 0)) = g := by rw [List.getD_eq_getElem?_getD, List.getElem?_eq_getElem hlt]; exact hg
    have htm : tmM (rmF (wonN ws) i) N kg kg.length = tF (wonN ws) N kg i := by rw [tm_cut, Nat.min_eq_right (by omega)]
    have htv : tmsR N kg (rmF (wonN ws) i) ((i : Nat) : Int) = (a, bq, 0) := by
      unfold tmsR
      rw [if_pos (by omega), htm, Int.toNat_natCast, hgd]
      unfold atM
      rw [ga, gb]; rfl
    obtain ⟨hre, hrm⟩ := rep_ok (wonN_v ws) hlt
    have hwv := wonN_v ws i
    refine J_keep (l' := [(0, _), (1, _), (2, _), (7, _), (9, _), (11, _), (12, _)]) ⟨rfl, rfl, rfl, rfl, rfl, rfl, rfl, trivial⟩ ?_
    refine J_reg ?_
    refine JM rfl rfl rfl rfl rfl ?_
    refine JM rfl rfl rfl rfl rfl ?_
    refine JL_op (wn0 rfl) (ow_callB (ec_fn rfl rfl cf_35) rfl rfl (fun w hw => (by have hp := pd_of (T := (N : Nat)) (G := kg) (R := kr) (t := t43) (k := i) (m := rmF (wonN ws) i) hw (by unfold PdG; repeat (first | exact Pk.nil _ | (refine Pk.pick (by repeat (first | exact Rm.here _ | apply Rm.there)) ?_))) ⟨by omega, by omega⟩; obtain ⟨n0, c0, -, hm⟩ := id hp.2.2; have := Teams35 N kg kr _ (i : Nat) w _ _ _ _ n0 c0 _ _ hp.1 hm (by omega) (by omega) hbw.1 (rmF_v (wonN_v ws) i); rw [htv] at this; exact this))) (fun _ _ => ?_)
    refine JM rfl rfl rfl rfl rfl ?_
    refine JL_val rfl (wn0 rfl) (RP.rv (rp_run1 (f := fun u => Instr.extract u 0) (fun _ => rfl) rfl (fun _ => rfl))) rfl ?_
    refine JL_val rfl (wn0 rfl) (RP.rv (rp_run1 (f := fun u => Instr.extract u 1) (fun _ => rfl) rfl (fun _ => rfl))) rfl ?_
    refine JL_val rfl (wn0 rfl) (RP.rv (rp_run1 (f := fun u => Instr.extract u 2) (fun _ => rfl) rfl (fun _ => rfl))) rfl ?_
    refine JN rfl rfl rfl rfl rfl ?_
    refine JN rfl rfl rfl rfl rfl ?_
    refine JN rfl rfl rfl rfl rfl ?_
    refine JL_nil ?_
    refine JQ_then_n ?_
    refine J_seq ?_
    refine J_seq ?_
    refine J_keep (l' := [(0, _), (1, _), (2, _), (7, _), (9, _), (11, _), (12, _), (13, _), (14, _), (15, _)]) ⟨rfl, rfl, rfl, rfl, rfl, rfl, rfl, rfl, rfl, rfl, trivial⟩ ?_
    refine J_reg ?_
    refine JM rfl rfl rfl rfl rfl ?_
    refine JL_val rfl (wn0 rfl) (RP.rv (rp2 rfl rfl (fun ρ hx hy w => ex_neq29 rfl hx hy))) rfl ?_
    refine JL_decF (fun h => h rfl) ?_
    refine JM rfl rfl rfl rfl rfl ?_
    refine JL_val rfl (wn_g rfl rfl rfl rfl) (RP.rv (rp_move rfl rfl)) rfl ?_
    refine JL_val rfl (wn_g rfl rfl rfl rfl) (RP.rv (rp2 rfl rfl (fun ρ hx hy w => ex_lssD rfl hx hy))) rfl ?_
    refine JL_decF (show ¬ a < 0 by omega) ?_
    refine JL_val rfl (wn0 rfl) (RP.rv (rp_pickF rfl rfl rfl)) rfl ?_
    refine JM rfl rfl rfl rfl rfl ?_
    refine JL_val rfl (wn_g rfl rfl rfl rfl) (RP.rv (rp_move rfl rfl)) rfl ?_
    refine JL_val rfl (wn_g rfl rfl rfl rfl) (RP.rv (rp2 rfl rfl (fun ρ hx hy w => ex_lssD rfl hx hy))) rfl ?_
    refine JL_decF (show ¬ bq < 0 by omega) ?_
    refine JL_val rfl (wn0 rfl) (RP.rv (rp_pickF rfl rfl rfl)) rfl ?_
    refine JM rfl rfl rfl rfl rfl ?_
    refine JL_val rfl (wn_g rfl rfl rfl rfl) (RP.rv (rp_move rfl rfl)) rfl ?_
    refine JL_val rfl (wn_g rfl rfl rfl rfl) (RP.rv (rp_move rfl rfl)) rfl ?_
    refine JL_val rfl (wn_g rfl rfl rfl rfl) (RP.rv (rp2 rfl rfl (fun ρ hx hy w => ex_eqlD rfl hx hy))) rfl ?_
    refine JL_decF gne ?_
    refine JL_val rfl (wn0 rfl) (RP.rv (rp_pickF rfl rfl rfl)) rfl ?_
    refine JM rfl rfl rfl rfl rfl ?_
    refine JL_val rfl (wn_g rfl rfl rfl rfl) (RP.rv (rp_move rfl rfl)) rfl ?_
    refine JL_val rfl (wn_g rfl rfl rfl rfl) (RP.rv (rp_move rfl rfl)) rfl ?_
    refine JL_val rfl (wn_g rfl rfl rfl rfl) (RP.rv (rp_move rfl rfl)) rfl ?_
    refine JL_val rfl (wn_g rfl rfl rfl rfl) (RP.rv (rp_move rfl rfl)) rfl ?_
    refine JL_op (wn_g rfl rfl rfl rfl) (ow_callB (ec_fn rfl rfl cf_37) rfl rfl (fun w hw => won37 ws i w A2 c2 (fun h => by obtain ⟨b, o, e, hh⟩ := hA2 h; exact ⟨b, o, e, hh.up EB hw.bel⟩) (by omega))) (fun _ _ => ?_)
    refine JL_op (wn_g rfl rfl rfl rfl) (ow_callM (A := resB t43.bm i (rmF (wonN ws) i)) (T := Unit) (φ := fun _ => True) (V := fun _ => .int .i64 (repE kg (rmF (wonN ws) i) (i : Nat) (wonN ws i))) (C := fun _ => resB t43.bm (i + 1) (rmF (wonN ws) (i + 1))) (ec_fn rfl rfl cf_36) rfl rfl rfl (fun _ => rfl) (fun _ => (by repeat (first | exact At.here _ | apply At.there))) (fun w hw => by have hp := pd_of (T := (N : Nat)) (G := kg) (R := kr) (t := t43) (k := i) (m := rmF (wonN ws) i) hw (by unfold PdG; repeat (first | exact Pk.nil _ | (refine Pk.pick (by repeat (first | exact Rm.here _ | apply Rm.there)) ?_))) ⟨by omega, by omega⟩; obtain ⟨n0, c0, -, hm⟩ := id hp.2.2; have := report36 (N : Nat) kg kr (rmF (wonN ws) i) (i : Nat) (wonN ws i) w _ _ _ _ i _ _ hp.1 hp.2.1 hp.2.2 (by omega) (by omega) (by unfold W64; omega) (by unfold W64; omega); rw [hrm] at this; exact this)) (fun _ _ => ?_)
    refine JL_val rfl (wn_g rfl rfl rfl rfl) (RP.rv (rp2 rfl rfl (fun ρ hx hy w => ex_neq29 rfl hx hy))) rfl ?_
    refine JL_decF (fun h => h hre) ?_
    refine JL_val rfl (wn0 rfl) (RP.rv (rp_pickF rfl rfl rfl)) rfl ?_
    refine JL_nil ?_
    refine JQ_then_n ?_
    refine J_no rfl rfl ?_
    refine J_skip ?_
    refine JQ_then_n ?_
    refine J_seq ?_
    refine J_keep (l' := [(0, _), (1, _), (2, _), (7, _), (9, _), (11, _), (12, _), (13, _), (14, _)]) ⟨rfl, rfl, rfl, rfl, rfl, rfl, rfl, rfl, rfl, trivial⟩ ?_
    refine J_reg ?_
    refine JM rfl rfl rfl rfl rfl ?_
    refine JM rfl rfl rfl rfl rfl ?_
    refine JL_op (wn0 rfl) (ow_callB (ec_fn rfl rfl cf_37) rfl rfl (fun w hw => won37 ws i w A2 c2 (fun h => by obtain ⟨b, o, e, hh⟩ := hA2 h; exact ⟨b, o, e, hh.up EB hw.bel⟩) (by omega))) (fun _ _ => ?_)
    refine JL_val rfl (wn0 rfl) (RP.rv (rp2 rfl rfl (fun ρ hx hy w => ex_eqlD rfl hx hy))) rfl ?_
    refine JL_dec (fun h94 => ?_) (fun h94 => ?_)
    ·refine JL_nil ?_
     refine JQ_then_n ?_
     refine J_yes rfl rfl ?_
     have hls : lsF (wonN ws) N kg i = bq := by
       unfold lsF
       rw [hgd, h94]
       show (tF (wonN ws) N kg i g.2).getD (-1) = _
       rw [gb]; rfl
     have hl1 := lmF_get (wonN ws) N kg i bq
     refine J_keep (l' := [(0, _), (1, _), (2, _), (7, _), (9, _), (11, _), (12, _), (14, _)]) ⟨rfl, rfl, rfl, rfl, rfl, rfl, rfl, rfl, trivial⟩ ?_
     refine J_reg ?_
     refine JM rfl rfl rfl rfl rfl ?_
     refine JM rfl rfl rfl rfl rfl ?_
     refine JL_val rfl (wn0 rfl) (rv_look K3 E3 (kt := 3) (e := 3) (m := i) (c := cc) (f := lmF (wonN ws) N kg i) bq Try.underlying66 rfl rfl rfl (by repeat (first | exact List.Mem.head _ | apply List.Mem.tail)) rfl (by unfold W64; omega)) rfl ?_
     refine JL_val rfl (wn0 rfl) (RP.rv (rp2 rfl rfl (fun ρ hx hy w => ex_add rfl hx hy (by omega)))) rfl ?_
     refine JL_op (wn0 rfl) (ow_put K3 E3 (kt := 3) (e := 3) (m := i) (c := cc) (f := lmF (wonN ws) N kg i) bq ((lmF (wonN ws) N kg i bq).getD 0 + 1) Try.underlying66 rfl rfl rfl rfl rfl rfl rfl (by repeat (first | exact At.here _ | apply At.there)) (by unfold W64; omega) (by unfold W64; omega) (by omega)) (fun _ _ => ?_)
     refine JL_nil ?_
     refine JQ_block_n ?_
     refine JQ_then_n ?_
     refine J_keep (l' := [(0, _), (1, _), (2, _), (7, _), (9, _), (11, _), (12, _)]) ⟨rfl, rfl, rfl, rfl, rfl, rfl, rfl, trivial⟩ ?_
     refine J_reg ?_
     refine JM rfl rfl rfl rfl rfl ?_
     refine JL_val rfl (wn0 rfl) (RP.rv (rp2 rfl rfl (fun ρ hx hy w => ex_add rfl hx hy (by omega)))) rfl ?_
     refine JN rfl rfl rfl rfl rfl ?_
     refine JL_nil ?_
     have hsn : lmF (wonN ws) N kg (i + 1) = upd (lmF (wonN ws) N kg i) bq ((lmF (wonN ws) N kg i bq).getD 0 + 1) := by show upd _ (lsF (wonN ws) N kg i) _ = _; rw [hls]
     exact JQ_round (i + 1, _) (by dsimp only; omega) (by dsimp only; omega) ⟨rfl, rfl, rfl, rfl, rfl, rfl, (congrArg some (by go_num)), trivial⟩ (by (try dsimp only); rw [hsn]; repeat (first | exact Pk.nil _ | (refine Pk.pick (by repeat (first | exact Rm.here _ | apply Rm.there)) ?_)))
    ·refine JL_nil ?_
     refine JQ_then_n ?_
     refine J_no rfl rfl ?_
     have h94' : wonN ws i = 1 := by omega
     have hls : lsF (wonN ws) N kg i = a := by
       unfold lsF
       rw [hgd, h94']
       show (tF (wonN ws) N kg i g.1).getD (-1) = _
       rw [ga]; rfl
     have hl1 := lmF_get (wonN ws) N kg i a
     refine J_keep (l' := [(0, _), (1, _), (2, _), (7, _), (9, _), (11, _), (12, _), (13, _)]) ⟨rfl, rfl, rfl, rfl, rfl, rfl, rfl, rfl, trivial⟩ ?_
     refine J_reg ?_
     refine JM rfl rfl rfl rfl rfl ?_
     refine JM rfl rfl rfl rfl rfl ?_
     refine JL_val rfl (wn0 rfl) (rv_look K3 E3 (kt := 3) (e := 3) (m := i) (c := cc) (f := lmF (wonN ws) N kg i) a Try.underlying66 rfl rfl rfl (by repeat (first | exact List.Mem.head _ | apply List.Mem.tail)) rfl (by unfold W64; omega)) rfl ?_
     refine JL_val rfl (wn0 rfl) (RP.rv (rp2 rfl rfl (fun ρ hx hy w => ex_add rfl hx hy (by omega)))) rfl ?_
     refine JL_op (wn0 rfl) (ow_put K3 E3 (kt := 3) (e := 3) (m := i) (c := cc) (f := lmF (wonN ws) N kg i) a ((lmF (wonN ws) N kg i a).getD 0 + 1) Try.underlying66 rfl rfl rfl rfl rfl rfl rfl (by repeat (first | exact At.here _ | apply At.there)) (by unfold W64; omega) (by unfold W64; omega) (by omega)) (fun _ _ => ?_)
     refine JL_nil ?_
     refine JQ_block_n ?_
     refine JQ_then_n ?_
     refine J_keep (l' := [(0, _), (1, _), (2, _), (7, _), (9, _), (11, _), (12, _)]) ⟨rfl, rfl, rfl, rfl, rfl, rfl, rfl, trivial⟩ ?_
     refine J_reg ?_
     refine JM rfl rfl rfl rfl rfl ?_
     refine JL_val rfl (wn0 rfl) (RP.rv (rp2 rfl rfl (fun ρ hx hy w => ex_add rfl hx hy (by omega)))) rfl ?_
     refine JN rfl rfl rfl rfl rfl ?_
     refine JL_nil ?_
     have hsn : lmF (wonN ws) N kg (i + 1) = upd (lmF (wonN ws) N kg i) a ((lmF (wonN ws) N kg i a).getD 0 + 1) := by show upd _ (lsF (wonN ws) N kg i) _ = _; rw [hls]
     exact JQ_round (i + 1, _) (by dsimp only; omega) (by dsimp only; omega) ⟨rfl, rfl, rfl, rfl, rfl, rfl, (congrArg some (by go_num)), trivial⟩ (by (try dsimp only); rw [hsn]; repeat (first | exact Pk.nil _ | (refine Pk.pick (by repeat (first | exact Rm.here _ | apply Rm.there)) ?_)))
   ·refine JL_nil ?_
    refine JQ_then_n ?_
    refine J_no rfl rfl ?_
    refine J_exit ?_
    refine JQ_then_x ?_
    refine JQ_then_x ?_
    refine JQ_block_y rfl ?_
    refine JQ_then_n ?_
    refine J_seq ?_
    obtain rfl : i = kg.length := by omega
    have htm : tmM (rmF (wonN ws) kg.length) N kg kg.length = tF (wonN ws) N kg kg.length := by rw [tm_cut, Nat.min_self]
    obtain ⟨PL, hPL⟩ : ∃ L, plcL (tF (wonN ws) N kg kg.length) kr = L := ⟨_, rfl⟩
    have hPl : PL.length = N := by rw [← hPL]; unfold plcL; rw [List.length_map]; exact hlv.len.1
    refine J_keep (l' := [(0, _), (1, _), (9, _), (11, _)]) ⟨rfl, rfl, rfl, rfl, trivial⟩ ?_
    refine J_reg ?_
    refine JM rfl rfl rfl rfl rfl ?_
    refine JL_opS (wn0 rfl) (ow_callS (ec_fn rfl rfl cf_38) rfl rfl (fun w hw => (by have hp := pd_of (T := (N : Nat)) (G := kg) (R := kr) (t := t43) (k := kg.length) (m := rmF (wonN ws) kg.length) hw (by unfold PdG; repeat (first | exact Pk.nil _ | (refine Pk.pick (by repeat (first | exact Rm.here _ | apply Rm.there)) ?_))) ⟨by omega, by omega⟩; obtain ⟨n0, c0, -, hm⟩ := id hp.2.2; have := places38 N kg kr _ w _ _ _ _ n0 c0 _ _ hp.1 hm (by omega) (by omega) (by omega) hbw.1 hbw.2 (rmF_v (wonN_v ws) kg.length); rw [htm, hPL] at this; exact this))) (fun A104 c104 => ?_)
    refine JN rfl rfl rfl rfl rfl ?_
    refine JL_nil ?_
    refine JQ_then_n ?_
    refine J_seq ?_
    refine J_fact (fun hf => ?_)
    obtain ⟨gp, rfl⟩ := own_some (A := A104) (ty := 3) (k := 1) (m := PL.length) hf (by repeat (first | exact List.Mem.head _ | apply List.Mem.tail)) (by omega)
    refine J_reg ?_
    refine JN rfl rfl rfl rfl rfl ?_
    refine JL_nil ?_
    refine JQ_then_n ?_
    refine J_seq ?_
    refine J_reg ?_
    refine JM rfl rfl rfl rfl rfl ?_
    refine JN rfl rfl rfl rfl rfl ?_
    refine JL_nil ?_
    refine JQ_then_n ?_
    refine J_seq ?_
    refine J_seq ?_
    refine J_keep (l' := [(0, _), (1, _), (11, _), (16, _), (17, _), (18, _)]) ⟨rfl, rfl, rfl, rfl, rfl, rfl, trivial⟩ ?_
    refine J_reg ?_
    refine JN rfl rfl rfl rfl rfl ?_
    refine JL_nil ?_
    refine JQ_then_n ?_
    refine J_block ?_
    refine J_loop (T := Nat × Nat × Nat) (fun q => q.1 ≤ tk.length ∧ q.2.1 + q.2.2 = N ∧ lvE (tk.drop q.1) q.2.1 (q.1 : Nat) = (lvE tk N 0).drop q.2.2) (fun q => [(0, .int .i64 (N : Nat)), (1, .slice A tk.length c), (11, .map (some b52)), (16, .slice (some ⟨gp, 0, none⟩) PL.length c104), (17, .int .i64 (q.2.2 : Nat)), (18, .int .i64 (q.2.1 : Nat)), (19, .int .i64 (q.1 : Nat))]) (fun q => [ownB 3 1 (some ⟨gp, 0, none⟩) PL.length c104 (PL.flatMap eI), mapB 3 3 kI W64 dI b52 kg.length cc (lmF (wonN ws) N kg kg.length)]) (fun q => tk.length - q.1) (0, N, 0) ⟨Nat.zero_le _, rfl, rfl⟩ ⟨rfl, rfl, rfl, rfl, rfl, rfl, rfl, trivial⟩ (by repeat (first | exact Pk.nil _ | (refine Pk.pick (by repeat (first | exact Rm.here _ | apply Rm.there)) ?_))) ?_
    rintro ⟨k, left, at'⟩ ⟨hk, hla, hlE⟩
    dsimp only at hk hla hlE ⊢
    refine J_seq ?_
    refine J_seq ?_
    refine J_reg ?_
    refine JM rfl rfl rfl rfl rfl ?_
    refine JM rfl rfl rfl rfl rfl ?_
    refine JL_val rfl (wn0 rfl) (RP.rv (rp1 rfl (fun ρ hx w => ex_len (A := _) (c := _) rfl Try.underlying26 hx))) rfl ?_
    refine JL_val rfl (wn0 rfl) (RP.rv (rp2 rfl rfl (fun ρ hx hy w => ex_lssD rfl hx hy))) rfl ?_
    refine JL_dec (fun h109 => ?_) (fun h109 => ?_)
    ·refine JL_nil ?_
     refine JQ_then_n ?_
     refine J_yes rfl rfl ?_
     refine J_skip ?_
     refine JQ_then_n ?_
     refine J_seq ?_
     refine J_block ?_
     refine J_seq ?_
     have hlt : k < tk.length := by omega
     obtain ⟨Ag0, cg0, eg0, -, -, hA⟩ := id hq
     injection eg0 with e1 e2 e3
     subst e1 e3
     obtain ⟨b, p, rfl, hh⟩ := hA (by intro e; subst e; simp at hlt)
     obtain ⟨n, hn⟩ : ∃ n, tk[k]'hlt = n := ⟨_, rfl⟩
     have hnb := hqb n (by rw [← hn]; exact List.getElem_mem _)
     have hget := lvE_get hlt hn hlE
     obtain ⟨qq, hqq⟩ : ∃ q, min left n.toNat = q := ⟨_, rfl⟩
     have hmin : min ((left : Nat) : Int) n = ((qq : Nat) : Int) := by omega
     refine J_keep (l' := [(0, _), (1, _), (11, _), (16, _), (17, _), (18, _), (19, _)]) ⟨rfl, rfl, rfl, rfl, rfl, rfl, rfl, trivial⟩ ?_
     refine J_reg ?_
     refine JM rfl rfl rfl rfl rfl ?_
     refine JM rfl rfl rfl rfl rfl ?_
     refine JM rfl rfl rfl rfl rfl ?_
     refine JL_val rfl (wn0 rfl) (RP.rv (rp2 rfl rfl (fun ρ hx hy w => ex_indexI (k := k) rfl hx hy rfl Try.underlying26 sz_3 (by omega)))) rfl ?_
     refine JL_val rfl (wn0 rfl) (rv_hold (j := k) rfl rfl ag_3 (fun h => h) hh hlt (by omega) (by rw [hn]; rfl)) rfl ?_
     refine JL_val rfl (wn0 rfl) (RP.rv (rp2 rfl rfl (fun ρ hx hy w => ex_min rfl hx hy))) rfl ?_
     refine JN rfl rfl rfl rfl rfl ?_
     refine JL_nil ?_
     refine JQ_then_n ?_
     refine J_seq ?_
     refine J_seq ?_
     refine J_keep (l' := [(0, _), (1, _), (11, _), (16, _), (17, _), (18, _), (19, _), (20, _)]) ⟨rfl, rfl, rfl, rfl, rfl, rfl, rfl, rfl, trivial⟩ ?_
     refine J_reg ?_
     refine JN rfl rfl rfl rfl rfl ?_
     refine JL_nil ?_
     refine JQ_then_n ?_
     refine J_block ?_
     refine J_loop (T := Nat) (fun z => z ≤ qq) (fun z => [(0, .int .i64 (N : Nat)), (1, .slice (some ⟨b, p, none⟩) tk.length c), (11, .map (some b52)), (16, .slice (some ⟨gp, 0, none⟩) PL.length c104), (17, (.int .i64 ((at' + z : Nat) : Int))), (18, .int .i64 (left : Nat)), (19, .int .i64 (k : Nat)), (20, .int .i64 (qq : Nat)), (21, .int .i64 (z : Nat))]) (fun z => [ownB 3 1 (some ⟨gp, 0, none⟩) PL.length c104 (PL.flatMap eI), mapB 3 3 kI W64 dI b52 kg.length cc (lmF (wonN ws) N kg kg.length)]) (fun z => qq - z) 0 (Nat.zero_le _) ⟨rfl, rfl, rfl, rfl, rfl, rfl, rfl, (congrArg (fun x => some (Value.int .i64 x)) hmin), rfl, trivial⟩ (by repeat (first | exact Pk.nil _ | (refine Pk.pick (by repeat (first | exact Rm.here _ | apply Rm.there)) ?_))) ?_
     rintro z hz
     refine J_seq ?_
     refine J_seq ?_
     refine J_reg ?_
     refine JM rfl rfl rfl rfl rfl ?_
     refine JM rfl rfl rfl rfl rfl ?_
     refine JL_val rfl (wn0 rfl) (RP.rv (rp2 rfl rfl (fun ρ hx hy w => ex_lssD rfl hx hy))) rfl ?_
     refine JL_dec (fun h120 => ?_) (fun h120 => ?_)
     ·refine JL_nil ?_
      refine JQ_then_n ?_
      refine J_yes rfl rfl ?_
      refine J_skip ?_
      refine JQ_then_n ?_
      refine J_seq ?_
      refine J_block ?_
      refine J_seq ?_
      refine J_seq ?_
      have hzq : z < qq := by omega
      have hN9 : at' + z < N := by omega
      have hix : at' + z < kr.length := by rw [hlv.len.1]; exact hN9
      have hix2 : at' + z < (lvE tk N 0).length := by rw [hlv.len.2]; exact hN9
      obtain ⟨t, t1, t2, t3⟩ := hlv.pl (at' + z) hix hix2
      have hPt : PL[at' + z]'(by omega) = t := by
        have e : (plcL (tF (wonN ws) N kg kg.length) kr)[at' + z]'(by unfold plcL; rw [List.length_map]; exact hix) = t := by
          unfold plcL
          rw [List.getElem_map]
          unfold atM
          rw [t1]; rfl
        simp only [← hPL]
        exact e
      have hEv : (lvE tk N 0)[at' + z]'hix2 = ((k : Nat) : Int) := by
        have h1 := hget.2 z (by omega)
        rw [List.getElem?_eq_getElem hix2] at h1
        injection h1
      have hval : (lmF (wonN ws) N kg kg.length t).getD 0 = ((k : Nat) : Int) := by rw [(lmF_get (wonN ws) N kg kg.length t).1, t2, hEv]
      refine J_reg ?_
      refine JM rfl rfl rfl rfl rfl ?_
      refine JM rfl rfl rfl rfl rfl ?_
      refine JL_val rfl (wn0 rfl) (RP.rv (rp1 rfl (fun ρ hx w => ex_len (A := _) (c := _) rfl Try.underlying26 hx))) rfl ?_
      refine JL_val rfl (wn0 rfl) (RP.rv (rp2 rfl rfl (fun ρ hx hy w => ex_geqD rfl hx hy))) rfl ?_
      refine JL_decF (by omega) ?_
      refine JM rfl rfl rfl rfl rfl ?_
      refine JL_val rfl (wn_g rfl rfl rfl rfl) (RP.rv (rp_move rfl rfl)) rfl ?_
      refine JL_val rfl (wn_g rfl rfl rfl rfl) (RP.rv (rp_move rfl rfl)) rfl ?_
      refine JL_val rfl (wn_g rfl rfl rfl rfl) (RP.rv (rp_move rfl rfl)) rfl ?_
      refine JL_val rfl (wn_g rfl rfl rfl rfl) (RP.rv (rp2 rfl rfl (fun ρ hx hy w => ex_indexI (k := at' + z) rfl hx hy rfl Try.underlying26 sz_3 (by omega)))) rfl ?_
      refine JL_val rfl (wn_g rfl rfl rfl rfl) (rv_ownE (k := 1) (j := at' + z) EI rfl rfl ag_3 (by repeat (first | exact List.Mem.head _ | apply List.Mem.tail)) (by omega) (by omega) (by rw [hPt]; rfl)) rfl ?_
      refine JL_val rfl (wn_g rfl rfl rfl rfl) (rv_look K3 E3 (kt := 3) (e := 3) (m := kg.length) (c := cc) (f := lmF (wonN ws) N kg kg.length) t Try.underlying66 rfl rfl rfl (by repeat (first | exact List.Mem.head _ | apply List.Mem.tail)) rfl (by unfold W64; omega)) rfl ?_
      refine JL_val rfl (wn_g rfl rfl rfl rfl) (RP.rv (rp_move rfl rfl)) rfl ?_
      refine JL_val rfl (wn_g rfl rfl rfl rfl) (RP.rv (rp2 rfl rfl (fun ρ hx hy w => ex_neqD rfl hx hy))) rfl ?_
      refine JL_decF (fun h => h hval) ?_
      refine JL_val rfl (wn0 rfl) (RP.rv (rp_pickF rfl rfl rfl)) rfl ?_
      refine JL_nil ?_
      refine JQ_then_n ?_
      refine J_no rfl rfl ?_
      refine J_skip ?_
      refine JQ_then_n ?_
      refine J_keep (l' := [(0, _), (1, _), (11, _), (16, _), (17, _), (18, _), (19, _), (20, _), (21, _)]) ⟨rfl, rfl, rfl, rfl, rfl, rfl, rfl, rfl, rfl, trivial⟩ ?_
      refine J_reg ?_
      refine JM rfl rfl rfl rfl rfl ?_
      refine JL_val rfl (wn0 rfl) (RP.rv (rp2 rfl rfl (fun ρ hx hy w => ex_add rfl hx hy (by omega)))) rfl ?_
      refine JN rfl rfl rfl rfl rfl ?_
      refine JL_nil ?_
      refine JQ_block_n ?_
      refine JQ_then_n ?_
      refine J_reg ?_
      refine JM rfl rfl rfl rfl rfl ?_
      refine JL_val rfl (wn0 rfl) (RP.rv (rp2 rfl rfl (fun ρ hx hy w => ex_add rfl hx hy (by omega)))) rfl ?_
      refine JN rfl rfl rfl rfl rfl ?_
      refine JL_nil ?_
      exact JQ_round (z + 1) (by omega) (by omega) ⟨rfl, rfl, rfl, rfl, (congrArg some (by go_num)), rfl, rfl, rfl, (congrArg some (by go_num)), trivial⟩ (by repeat (first | exact Pk.nil _ | (refine Pk.pick (by repeat (first | exact Rm.here _ | apply Rm.there)) ?_)))
     ·refine JL_nil ?_
      refine JQ_then_n ?_
      refine J_no rfl rfl ?_
      refine J_exit ?_
      refine JQ_then_x ?_
      refine JQ_then_x ?_
      refine JQ_block_y rfl ?_
      refine JQ_then_n ?_
      refine J_keep (l' := [(0, _), (1, _), (11, _), (16, _), (17, _), (18, _), (19, _), (20, _)]) ⟨rfl, rfl, rfl, rfl, rfl, rfl, rfl, rfl, trivial⟩ ?_
      refine J_reg ?_
      refine JM rfl rfl rfl rfl rfl ?_
      refine JM rfl rfl rfl rfl rfl ?_
      refine JL_val rfl (wn0 rfl) (RP.rv (rp2 rfl rfl (fun ρ hx hy w => ex_sub rfl hx hy (by omega)))) rfl ?_
      refine JN rfl rfl rfl rfl rfl ?_
      refine JL_nil ?_
      refine JQ_block_n ?_
      refine JQ_then_n ?_
      refine J_keep (l' := [(0, _), (1, _), (11, _), (16, _), (17, _), (18, _), (19, _)]) ⟨rfl, rfl, rfl, rfl, rfl, rfl, rfl, trivial⟩ ?_
      refine J_reg ?_
      refine JM rfl rfl rfl rfl rfl ?_
      refine JL_val rfl (wn0 rfl) (RP.rv (rp2 rfl rfl (fun ρ hx hy w => ex_add rfl hx hy (by omega)))) rfl ?_
      refine JN rfl rfl rfl rfl rfl ?_
      refine JL_nil ?_
      obtain rfl : z = qq := by omega
      exact JQ_round (k + 1, left - z, at' + z) ⟨by dsimp only; omega, by dsimp only; omega, by dsimp only; have := hget.1; rw [hqq] at this; exact this⟩ (by dsimp only; omega) ⟨rfl, rfl, rfl, rfl, rfl, (congrArg (fun x => some (Value.int .i64 x)) (by dsimp only; omega)), (congrArg some (by go_num)), trivial⟩ (by repeat (first | exact Pk.nil _ | (refine Pk.pick (by repeat (first | exact Rm.here _ | apply Rm.there)) ?_)))
    ·refine JL_nil ?_
     refine JQ_then_n ?_
     refine J_no rfl rfl ?_
     refine J_exit ?_
     refine JQ_then_x ?_
     refine JQ_then_x ?_
     refine JQ_block_y rfl ?_
     refine JQ_then_n ?_
     refine J_seq ?_
     refine J_block ?_
     obtain rfl : k = tk.length := by omega
     rw [List.drop_length] at hlE
     refine J_loop (T := Nat × Nat) (fun q => q.1 + q.2 = N ∧ List.replicate q.1 ((tk.length : Nat) : Int) = (lvE tk N 0).drop q.2) (fun q => [(0, .int .i64 (N : Nat)), (1, .slice A tk.length c), (11, .map (some b52)), (16, .slice (some ⟨gp, 0, none⟩) PL.length c104), (17, .int .i64 (q.2 : Nat))]) (fun q => [ownB 3 1 (some ⟨gp, 0, none⟩) PL.length c104 (PL.flatMap eI), mapB 3 3 kI W64 dI b52 kg.length cc (lmF (wonN ws) N kg kg.length)]) (fun q => q.1) (left, at') ⟨hla, hlE⟩ ⟨rfl, rfl, rfl, rfl, rfl, trivial⟩ (by repeat (first | exact Pk.nil _ | (refine Pk.pick (by repeat (first | exact Rm.here _ | apply Rm.there)) ?_))) ?_
     rintro ⟨lf, aa⟩ ⟨hla2, hrE⟩
     dsimp only at hla2 hrE ⊢
     refine J_seq ?_
     refine J_seq ?_
     refine J_reg ?_
     refine JM rfl rfl rfl rfl rfl ?_
     refine JM rfl rfl rfl rfl rfl ?_
     refine JL_val rfl (wn0 rfl) (RP.rv (rp1 rfl (fun ρ hx w => ex_len (A := _) (c := _) rfl Try.underlying26 hx))) rfl ?_
     refine JL_val rfl (wn0 rfl) (RP.rv (rp2 rfl rfl (fun ρ hx hy w => ex_lssD rfl hx hy))) rfl ?_
     refine JL_dec (fun h145 => ?_) (fun h145 => ?_)
     ·refine JL_nil ?_
      refine JQ_then_n ?_
      refine J_yes rfl rfl ?_
      refine J_skip ?_
      refine JQ_then_n ?_
      refine J_block ?_
      refine J_seq ?_
      refine J_seq ?_
      have hlf : 0 < lf := by omega
      have hN9 : aa < N := by omega
      have hix : aa < kr.length := by rw [hlv.len.1]; exact hN9
      have hix2 : aa < (lvE tk N 0).length := by rw [hlv.len.2]; exact hN9
      obtain ⟨t, t1, t2, t3⟩ := hlv.pl (aa) hix hix2
      have hPt : PL[aa]'(by omega) = t := by
        have e : (plcL (tF (wonN ws) N kg kg.length) kr)[aa]'(by unfold plcL; rw [List.length_map]; exact hix) = t := by
          unfold plcL
          rw [List.getElem_map]
          unfold atM
          rw [t1]; rfl
        simp only [← hPL]
        exact e
      have hEv : (lvE tk N 0)[aa]'hix2 = ((tk.length : Nat) : Int) := by
        have h1 := (show (lvE tk N 0)[aa]? = some ((tk.length : Nat) : Int) by
          have h2 : ((lvE tk N 0).drop aa)[0]? = some ((tk.length : Nat) : Int) := by rw [← hrE, List.getElem?_replicate, if_pos hlf]
          rw [List.getElem?_drop, Nat.add_zero] at h2; exact h2)
        rw [List.getElem?_eq_getElem hix2] at h1
        injection h1
      have hval : (lmF (wonN ws) N kg kg.length t).getD 0 = ((tk.length : Nat) : Int) := by rw [(lmF_get (wonN ws) N kg kg.length t).1, t2, hEv]
      refine J_keep (l' := [(0, _), (1, _), (11, _), (16, _), (17, _)]) ⟨rfl, rfl, rfl, rfl, rfl, trivial⟩ ?_
      refine J_reg ?_
      refine JM rfl rfl rfl rfl rfl ?_
      refine JM rfl rfl rfl rfl rfl ?_
      refine JM rfl rfl rfl rfl rfl ?_
      refine JL_val rfl (wn0 rfl) (RP.rv (rp2 rfl rfl (fun ρ hx hy w => ex_indexI (k := aa) rfl hx hy rfl Try.underlying26 sz_3 (by omega)))) rfl ?_
      refine JL_val rfl (wn0 rfl) (rv_ownE (k := 1) (j := aa) EI rfl rfl ag_3 (by repeat (first | exact List.Mem.head _ | apply List.Mem.tail)) (by omega) (by omega) (by rw [hPt]; rfl)) rfl ?_
      refine JL_val rfl (wn0 rfl) (rv_look K3 E3 (kt := 3) (e := 3) (m := kg.length) (c := cc) (f := lmF (wonN ws) N kg kg.length) t Try.underlying66 rfl rfl rfl (by repeat (first | exact List.Mem.head _ | apply List.Mem.tail)) rfl (by unfold W64; omega)) rfl ?_
      refine JM rfl rfl rfl rfl rfl ?_
      refine JL_val rfl (wn0 rfl) (RP.rv (rp1 rfl (fun ρ hx w => ex_len (A := _) (c := _) rfl Try.underlying26 hx))) rfl ?_
      refine JL_val rfl (wn0 rfl) (RP.rv (rp2 rfl rfl (fun ρ hx hy w => ex_neqD rfl hx hy))) rfl ?_
      refine JL_decF (fun h => h hval) ?_
      refine JL_nil ?_
      refine JQ_then_n ?_
      refine J_no rfl rfl ?_
      refine J_skip ?_
      refine JQ_then_n ?_
      refine J_keep (l' := [(0, _), (1, _), (11, _), (16, _), (17, _)]) ⟨rfl, rfl, rfl, rfl, rfl, trivial⟩ ?_
      refine J_reg ?_
      refine JM rfl rfl rfl rfl rfl ?_
      refine JL_val rfl (wn0 rfl) (RP.rv (rp2 rfl rfl (fun ρ hx hy w => ex_add rfl hx hy (by omega)))) rfl ?_
      refine JN rfl rfl rfl rfl rfl ?_
      refine JL_nil ?_
      refine JQ_block_n ?_
      have hrE2 : List.replicate (lf - 1) ((tk.length : Nat) : Int) = (lvE tk N 0).drop (aa + 1) := by
        have e : (lvE tk N 0).drop (aa + 1) = ((lvE tk N 0).drop aa).drop 1 := by rw [List.drop_drop]
        rw [e, ← hrE, List.drop_replicate]
      exact JQ_round (lf - 1, aa + 1) ⟨by dsimp only; omega, hrE2⟩ (by dsimp only; omega) ⟨rfl, rfl, rfl, rfl, (congrArg some (by go_num)), trivial⟩ (by repeat (first | exact Pk.nil _ | (refine Pk.pick (by repeat (first | exact Rm.here _ | apply Rm.there)) ?_)))
     ·refine JL_nil ?_
      refine JQ_then_n ?_
      refine J_no rfl rfl ?_
      refine J_exit ?_
      refine JQ_then_x ?_
      refine JQ_then_x ?_
      refine JQ_block_y rfl ?_
      refine JQ_then_n ?_
      refine J_seq ?_
      refine J_keep (l' := [(0, _), (16, _)]) ⟨rfl, rfl, trivial⟩ ?_
      refine J_reg ?_
      refine JM rfl rfl rfl rfl rfl ?_
      refine JL_val rfl (wn0 rfl) (RP.rv (rp1 rfl (fun ρ hx w => ex_len (A := _) (c := _) rfl Try.underlying26 hx))) rfl ?_
      refine JM rfl rfl rfl rfl rfl ?_
      refine JL_val rfl (wn0 rfl) (RP.rv (rp2 rfl rfl (fun ρ hx hy w => ex_eqlD rfl hx hy))) rfl ?_
      refine JL_decT (by omega) ?_
      refine JM rfl rfl rfl rfl rfl ?_
      refine JL_op (wn_g rfl rfl rfl rfl) (ow_callB (ec_fn rfl rfl cf_14) rfl rfl (fun w hw => awake14 w)) (fun _ _ => ?_)
      refine JL_val rfl (wn0 rfl) (RP.rv (rp_pickT rfl rfl rfl)) rfl ?_
      refine JN rfl rfl rfl rfl rfl ?_
      refine JL_nil ?_
      refine JQ_then_n ?_
      refine J_ret ?_
      refine JR_one rfl (rr_tmp rfl) ?_
      intro w' hw
      exact ⟨rfl, hw.bel⟩
end Go.Proofs.Ytlfbbofcnonhdaa
