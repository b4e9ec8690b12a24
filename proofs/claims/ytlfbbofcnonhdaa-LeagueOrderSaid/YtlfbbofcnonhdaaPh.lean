/- LeagueOrder: the walk. -/
import Derived.Test.YtlfbbofcnonhdaaPg
import Derived.Test.YtlfbbofcnonhdaaPb
import Derived.Test.YtlfbbofcnonhdaaEb
namespace Go.Proofs.Ytlfbbofcnonhdaa
open Go Go.RowKit Go.Proofs

/-- The teams of the first rows, the last one first. -/
def tms (t : List Rw) (i : Nat) : List Int := ((t.take i).map (·.team)).reverse
theorem tms_succ (t : List Rw) (i : Nat) (h : i < t.length) : tms t (i + 1) = (t[i]'h).team :: tms t i := by
 unfold tms; rw [List.take_succ_eq_append_getElem h, List.map_append, List.reverse_append]; rfl
theorem tms_len (t : List Rw) (i : Nat) : (tms t i).length ≤ t.length := by
 unfold tms; rw [List.length_reverse, List.length_map, List.length_take]; omega
theorem tms_no {t : List Rw} (hu : t.Pairwise (fun x y => x.team ≠ y.team)) (i : Nat) (h : i < t.length) : (tms t i).contains (t[i]'h).team = false := by
 rw [← Bool.not_eq_true, List.contains_iff_mem]
 intro hm
 unfold tms at hm
 rw [List.mem_reverse, List.mem_map] at hm
 obtain ⟨r, hr, e⟩ := hm
 obtain ⟨j, hj, rfl⟩ := List.mem_iff_getElem.1 hr
 rw [List.length_take] at hj
 rw [List.getElem_take] at e
 exact psub hu _ _ (sub_pair (i := j) (j := i) (by omega) h) e
theorem W6_sw {x : Re} (h : W6 x) : W6 (swR x) := ⟨⟨h.1.2, h.1.1⟩, ⟨h.2.1.2, h.2.1.1⟩, h.2.2.2, h.2.2.1⟩
set_option maxRecDepth 100000 in
set_option maxHeartbeats 4000000 in
theorem Order_law (T : Int) (A : Option Addr) (n c : Nat) (A2 : Option Addr) (n2 c2 : Nat) (w : World) (h1 : RowP 6 eR W6 w A n c) (h2 : RowQ 1 eU U8 w A2 n2) : Calls Try.prog 6 #[.int .i64 T, .slice A n c, .slice A2 n2 c2] w (Back (.bool true) w) := by
 refine J_enter (fun _ => False) (vs := [.int .i64 T, .slice A n c, .slice A2 n2 c2]) (k := 272) (l := [(0, .int .i64 T), (1, .slice A n c), (2, .slice A2 n2 c2)]) Try.func6 rfl rfl Try.ntmps6 rfl rfl (Wd.start _) ?_
 refine J_seq ?_
 refine J_reg ?_
 refine JN rfl rfl rfl rfl rfl ?_
 refine JL_nil ?_
 refine JQ_then_n ?_
 refine J_seq ?_
 refine J_seq ?_
 refine J_reg ?_
 refine JM rfl rfl rfl rfl rfl ?_
 refine JL_val rfl (wn0 rfl) (RP.rv (rp1 rfl (fun ρ hx w => ex_len (A := _) (c := _) rfl Try.underlying44 hx))) rfl ?_
 refine JL_val rfl (wn0 rfl) (RP.rv (rp2 rfl rfl (fun ρ hx hy w => ex_gtrD rfl hx hy))) rfl ?_
 refine JL_dec (fun h24 => ?_) (fun h24 => ?_)
 ·refine JL_nil ?_
  refine JQ_then_n ?_
  refine J_yes rfl rfl ?_
  refine J_seq ?_
  refine J_keep (l' := []) trivial ?_
  refine J_reg ?_
  refine JL_op (wn0 rfl) (ow_callB (ec_fn rfl rfl cf_14) rfl rfl (fun w hw => awake14 w)) (fun _ _ => ?_)
  refine JN rfl rfl rfl rfl rfl ?_
  refine JL_nil ?_
  refine JQ_then_n ?_
  refine J_ret ?_
  refine JQ_then_r ?_
  refine JR_one rfl (rr_tmp rfl) ?_
  intro w' hw
  exact ⟨rfl, hw.bel⟩
 ·refine JL_nil ?_
  refine JQ_then_n ?_
  refine J_no rfl rfl ?_
  refine J_skip ?_
  refine JQ_then_n ?_
  refine J_seq ?_
  obtain ⟨l, rfl, hrow, hw6⟩ := h1 (by omega)
  obtain ⟨hm2, bs, rfl, hA2, hU⟩ := h2
  obtain ⟨tb, htb⟩ : ∃ L, tblP T l = L := ⟨_, rfl⟩
  refine J_keep (l' := [(0, _), (1, _), (2, _)]) ⟨rfl, rfl, rfl, trivial⟩ ?_
  refine J_reg ?_
  refine JM rfl rfl rfl rfl rfl ?_
  refine JM rfl rfl rfl rfl rfl ?_
  refine JL_opS (wn0 rfl) (ow_callSE (L := tb) (ec_fn rfl rfl cf_25) rfl rfl (fun w hw => by rw [← htb]; exact Table25 T l _ w (hrow.up ER hw.bel) hw6)) (fun A29 c29 => ?_)
  refine JM rfl rfl rfl rfl rfl ?_
  refine JL_val rfl (wn0 rfl) (RP.rv (rp_run1 (f := fun u => Instr.extract u 0) (fun _ => rfl) rfl (fun _ => rfl))) rfl ?_
  refine JL_val rfl (wn0 rfl) (RP.rv (rp_run1 (f := fun u => Instr.extract u 1) (fun _ => rfl) rfl (fun _ => rfl))) rfl ?_
  refine JN rfl rfl rfl rfl rfl ?_
  refine JN rfl rfl rfl rfl rfl ?_
  refine JL_nil ?_
  refine JQ_then_n ?_
  refine J_seq ?_
  refine J_seq ?_
  refine J_keep (l' := [(0, _), (1, _), (2, _), (7, _), (8, _)]) ⟨rfl, rfl, rfl, rfl, rfl, trivial⟩ ?_
  refine J_reg ?_
  refine JM rfl rfl rfl rfl rfl ?_
  refine JL_val rfl (wn0 rfl) (RP.rv (rp2 rfl rfl (fun ρ hx hy w => ex_neq29 rfl hx hy))) rfl ?_
  refine JL_dec (fun h33 => ?_) (fun h33 => ?_)
  ·refine JL_nil ?_
   refine JQ_then_n ?_
   refine J_yes rfl rfl ?_
   refine J_seq ?_
   have htb0 : tb.length = 0 := by rw [← htb]; unfold tblP; rw [if_neg h33]; rfl
   refine J_keep (l' := [(7, _)]) ⟨rfl, trivial⟩ ?_
   refine J_reg ?_
   refine JM rfl rfl rfl rfl rfl ?_
   refine JL_val rfl (wn0 rfl) (RP.rv (rp1 rfl (fun ρ hx w => ex_len (A := _) (c := _) rfl Try.underlying45 hx))) rfl ?_
   refine JL_val rfl (wn0 rfl) (RP.rv (rp2 rfl rfl (fun ρ hx hy w => ex_eqlD rfl hx hy))) rfl ?_
   refine JL_decT (by omega) ?_
   refine JM rfl rfl rfl rfl rfl ?_
   refine JL_op (wn_g rfl rfl rfl rfl) (ow_callB (ec_fn rfl rfl cf_14) rfl rfl (fun w hw => awake14 w)) (fun _ _ => ?_)
   refine JL_val rfl (wn0 rfl) (RP.rv (rp_pickT rfl rfl rfl)) rfl ?_
   refine JN rfl rfl rfl rfl rfl ?_
   refine JL_nil ?_
   refine JQ_then_n ?_
   refine J_ret ?_
   refine JQ_then_r ?_
   refine JR_one rfl (rr_tmp rfl) ?_
   intro w' hw
   exact ⟨rfl, hw.bel⟩
  ·refine JL_nil ?_
   refine JQ_then_n ?_
   refine J_no rfl rfl ?_
   refine J_skip ?_
   refine JQ_then_n ?_
   refine J_seq ?_
   have hc : chkE T l = 0 := by omega
   have hv := vl_of hc
   have hlen := (tblP_len T l).2 hc
   have hT := (chk_ok hc).1
   have hok := tab_ok hc
   rw [htb] at hlen hok
   refine J_own0 56 6 ?_
   refine J_reg ?_
   refine JN rfl rfl rfl rfl rfl ?_

   refine JL_nil ?_
   refine JQ_then_n ?_
   refine J_seq ?_
   refine J_seq ?_
   refine J_reg ?_
   refine JN rfl rfl rfl rfl rfl ?_
   refine JL_nil ?_
   refine JQ_then_n ?_
   refine J_block ?_
   refine J_loop (T := Nat × Option Addr × Nat × List Re) (fun q => q.1 ≤ l.length ∧ q.2.2.2.length = q.1 ∧ Oth (l.take q.1) q.2.2.2 ∧ ∀ x ∈ q.2.2.2, W6 x) (fun q => [(0, .int .i64 T), (1, .slice A l.length c), (2, .slice A2 bs.length c2), (7, .slice A29 tb.length c29), (9, .slice q.2.1 q.2.2.2.length q.2.2.1), (10, .int .i64 (q.1 : Nat))]) (fun q => [ownB 58 8 A29 tb.length c29 (tb.flatMap eW), ownB 56 6 q.2.1 q.2.2.2.length q.2.2.1 (q.2.2.2.flatMap eR)]) (fun q => l.length - q.1) (0, none, 0, []) ⟨Nat.zero_le _, rfl, ⟨List.Perm.refl _⟩, nofun⟩ ⟨rfl, rfl, rfl, rfl, rfl, rfl, trivial⟩ (by repeat (first | exact Pk.nil _ | (refine Pk.pick (by repeat (first | exact Rm.here _ | apply Rm.there)) ?_))) ?_
   rintro ⟨k, A9, c9, O⟩ ⟨hk, hO, hoth, hOw⟩
   dsimp only at hk hO hoth hOw ⊢
   refine J_seq ?_
   refine J_seq ?_
   refine J_reg ?_
   refine JM rfl rfl rfl rfl rfl ?_
   refine JM rfl rfl rfl rfl rfl ?_
   refine JL_val rfl (wn0 rfl) (RP.rv (rp1 rfl (fun ρ hx w => ex_len (A := _) (c := _) rfl Try.underlying44 hx))) rfl ?_
   refine JL_val rfl (wn0 rfl) (RP.rv (rp2 rfl rfl (fun ρ hx hy w => ex_lssD rfl hx hy))) rfl ?_
   refine JL_dec (fun h43 => ?_) (fun h43 => ?_)
   ·refine JL_nil ?_
    refine JQ_then_n ?_
    refine J_yes rfl rfl ?_
    refine J_skip ?_
    refine JQ_then_n ?_
    refine J_seq ?_
    refine J_block ?_
    refine J_seq ?_
    have hlt : k < l.length := by omega
    obtain ⟨Ag, cg, eg, -, -, hA⟩ := id hrow
    injection eg with e1 e2 e3
    subst e1 e3
    obtain ⟨b, p, rfl, hh⟩ := hA (by intro e; subst e; simp at hlt)
    obtain ⟨x, hx⟩ : ∃ x, l[k]'hlt = x := ⟨_, rfl⟩
    have hxw : W6 x := by rw [← hx]; exact hw6 _ (List.getElem_mem _)
    refine J_keep (l' := [(0, _), (1, _), (2, _), (7, _), (9, _), (10, _)]) ⟨rfl, rfl, rfl, rfl, rfl, rfl, trivial⟩ ?_
    refine J_reg ?_
    refine JM rfl rfl rfl rfl rfl ?_
    refine JM rfl rfl rfl rfl rfl ?_
    refine JL_val rfl (wn0 rfl) (RP.rv (rp2 rfl rfl (fun ρ hx hy w => ex_indexE rfl hx hy Try.underlying44 sz_56 (by omega)))) rfl ?_
    refine JL_val rfl (wn0 rfl) (rv_holdagg (cs := [.int .i64 x.a, .int .i64 x.b, .int .i64 x.p0, .int .i64 x.p1, .int .i64 x.m0, .int .i64 x.m1]) ER rfl rfl ag_56 sz_56 (fun h => h) hh (by omega) (by rw [hx]; rfl)) rfl ?_
    refine JL_op (wn0 rfl) (ow_alloc rfl rfl zv_56 rfl rfl) (fun b11 hb11 => ?_)
    refine JL_op (wn0 rfl) (ow_store (cs := [_, _, _, _, _, _]) (vs' := [_, _, _, _, _, _]) rfl rfl rfl rfl rfl sz_56 rfl (by repeat (first | exact At.here _ | apply At.there)) (by rfl) (by rfl)) (fun _ _ => ?_)
    refine JN rfl rfl rfl rfl rfl ?_
    refine JL_nil ?_
    refine JQ_then_n ?_
    refine J_cut (T := Nat × Re) (fun q => q.1 ≤ O.length ∧ (q.2 = x ∨ q.2 = swR x)) (fun q => [(0, .int .i64 T), (1, .slice (some ⟨b, p, none⟩) l.length c), (2, .slice A2 bs.length c2), (7, .slice A29 tb.length c29), (9, .slice A9 O.length c9), (10, .int .i64 (k : Nat)), (11, .pointer (some ⟨b11, 0, none⟩)), (12, .int .i64 (q.1 : Nat))]) (fun q => [cellB b11 [.int .i64 q.2.a, .int .i64 q.2.b, .int .i64 q.2.p0, .int .i64 q.2.p1, .int .i64 q.2.m0, .int .i64 q.2.m1] 56, ownB 58 8 A29 tb.length c29 (tb.flatMap eW), ownB 56 6 A9 O.length c9 (O.flatMap eR)]) ?_ ?_
    ·refine J_seq ?_
     refine J_keep (l' := [(0, _), (1, _), (2, _), (7, _), (9, _), (10, _), (11, _), (12, _)]) ⟨rfl, rfl, rfl, rfl, rfl, rfl, rfl, rfl, trivial⟩ ?_
     refine J_reg ?_
     refine JM rfl rfl rfl rfl rfl ?_
     refine JL_val rfl (wn0 rfl) (RP.rv (rp1 rfl (fun ρ hx w => ex_len (A := _) (c := _) rfl Try.underlying54 hx))) rfl ?_
     refine JL_val rfl (wn0 rfl) (RP.rv (rp2 rfl rfl (fun ρ hx hy w => ex_gtrD rfl hx hy))) rfl ?_
     refine JL_dec (fun h52 => ?_) (fun h52 => ?_)
     ·refine JL_nil ?_
      refine JQ_then_n ?_
      refine J_yes rfl rfl ?_
      refine J_seq ?_
      obtain ⟨bb, pp, rfl, hh2⟩ := hA2 (by intro e; subst e; simp at h52)
      have hmd : k % bs.length < bs.length := Nat.mod_lt _ (by omega)
      obtain ⟨v, hv8⟩ : ∃ v, bs[k % bs.length]'hmd = v := ⟨_, rfl⟩
      have hvU : U8 v := by rw [← hv8]; exact hU _ (List.getElem_mem _)
      have hvU' := hvU
      unfold U8 at hvU'
      have hva : v % ((O.length : Int) + 1) = (((v % ((O.length : Int) + 1)).toNat : Nat) : Int) := (Int.toNat_of_nonneg (Int.emod_nonneg _ (by omega))).symm
      have hvb := Int.emod_lt_of_pos v (show 0 < (O.length : Int) + 1 by omega)
      refine J_keep (l' := [(0, _), (1, _), (2, _), (7, _), (9, _), (10, _), (11, _)]) ⟨rfl, rfl, rfl, rfl, rfl, rfl, rfl, trivial⟩ ?_
      refine J_reg ?_
      refine JM rfl rfl rfl rfl rfl ?_
      refine JM rfl rfl rfl rfl rfl ?_
      refine JM rfl rfl rfl rfl rfl ?_
      refine JL_val rfl (wn0 rfl) (RP.rv (rp1 rfl (fun ρ hx w => ex_len (A := _) (c := _) rfl Try.underlying54 hx))) rfl ?_
      refine JL_val rfl (wn0 rfl) (RP.rv (rp2 rfl rfl (fun ρ hx hy w => ex_rem rfl hx hy (by omega) (by omega)))) rfl ?_
      refine JL_val rfl (wn0 rfl) (RP.rv (rp2 rfl rfl (fun ρ hx hy w => ex_indexI (k := (k % bs.length)) rfl hx hy rfl Try.underlying54 sz_5 (by omega)))) rfl ?_
      refine JL_val rfl (wn0 rfl) (rv_hold rfl rfl ag_5 (fun h => h) hh2 (by omega) (by omega) (by rw [hv8]; rfl)) rfl ?_
      refine JL_val rfl (wn0 rfl) (RP.rv (rp1 rfl (fun ρ hx w => ex_conv8 rfl hx hvU))) rfl ?_
      refine JM rfl rfl rfl rfl rfl ?_
      refine JL_val rfl (wn0 rfl) (RP.rv (rp1 rfl (fun ρ hx w => ex_len (A := _) (c := _) rfl Try.underlying44 hx))) rfl ?_
      refine JL_val rfl (wn0 rfl) (RP.rv (rp2 rfl rfl (fun ρ hx hy w => ex_add rfl hx hy (by omega)))) rfl ?_
      refine JL_val rfl (wn0 rfl) (RP.rv (rp2 rfl rfl (fun ρ hx hy w => ex_rem rfl hx hy (by omega) (by omega)))) rfl ?_
      refine JN rfl rfl rfl rfl rfl ?_
      refine JL_nil ?_
      refine JQ_then_n ?_
      refine J_seq ?_
      refine J_keep (l' := [(0, _), (1, _), (2, _), (7, _), (9, _), (10, _), (11, _), (12, _)]) ⟨rfl, rfl, rfl, rfl, rfl, rfl, rfl, rfl, trivial⟩ ?_
      refine J_reg ?_
      refine JM rfl rfl rfl rfl rfl ?_
      refine JM rfl rfl rfl rfl rfl ?_
      refine JM rfl rfl rfl rfl rfl ?_
      refine JL_val rfl (wn0 rfl) (RP.rv (rp1 rfl (fun ρ hx w => ex_len (A := _) (c := _) rfl Try.underlying54 hx))) rfl ?_
      refine JL_val rfl (wn0 rfl) (RP.rv (rp2 rfl rfl (fun ρ hx hy w => ex_rem rfl hx hy (by omega) (by omega)))) rfl ?_
      refine JL_val rfl (wn0 rfl) (RP.rv (rp2 rfl rfl (fun ρ hx hy w => ex_indexI (k := (k % bs.length)) rfl hx hy rfl Try.underlying54 sz_5 (by omega)))) rfl ?_
      refine JL_val rfl (wn0 rfl) (rv_hold rfl rfl ag_5 (fun h => h) hh2 (by omega) (by omega) (by rw [hv8]; rfl)) rfl ?_
      refine JL_val rfl (wn0 rfl) (RP.rv (rp2 rfl rfl (fun ρ hx hy w => ex_geq8 rfl hx hy))) rfl ?_
      refine JL_dec (fun h72 => ?_) (fun h72 => ?_)
      ·refine JL_nil ?_
       refine JQ_then_n ?_
       refine J_yes rfl rfl ?_
       refine J_keep (l' := [(0, _), (1, _), (2, _), (7, _), (9, _), (10, _), (11, _), (12, _)]) ⟨rfl, rfl, rfl, rfl, rfl, rfl, rfl, rfl, trivial⟩ ?_
       refine J_reg ?_
       refine JL_val rfl (wn0 rfl) (RP.rv (rp_fieldC (off' := 1) rfl rfl fa_56_1 rfl)) rfl ?_
       refine JL_val rfl (wn0 rfl) (rv_cell rfl rfl ag_3 (by repeat (first | exact List.Mem.head _ | apply List.Mem.tail)) (by rfl)) rfl ?_
       refine JL_val rfl (wn0 rfl) (RP.rv (rp_fieldC (off' := 0) rfl rfl fa_56_0 rfl)) rfl ?_
       refine JL_val rfl (wn0 rfl) (rv_cell rfl rfl ag_3 (by repeat (first | exact List.Mem.head _ | apply List.Mem.tail)) (by rfl)) rfl ?_
       refine JL_val rfl (wn0 rfl) (RP.rv (rp_fieldC (off' := 2) rfl rfl fa_56_2 rfl)) rfl ?_
       refine JL_val rfl (wn0 rfl) (RP.rv (rp_arrC (off' := 3) rfl rfl rfl ia_42_1 rfl)) rfl ?_
       refine JL_val rfl (wn0 rfl) (rv_cell rfl rfl ag_3 (by repeat (first | exact List.Mem.head _ | apply List.Mem.tail)) (by rfl)) rfl ?_
       refine JL_val rfl (wn0 rfl) (RP.rv (rp_fieldC (off' := 2) rfl rfl fa_56_2 rfl)) rfl ?_
       refine JL_val rfl (wn0 rfl) (RP.rv (rp_arrC (off' := 2) rfl rfl rfl ia_42_0 rfl)) rfl ?_
       refine JL_val rfl (wn0 rfl) (rv_cell rfl rfl ag_3 (by repeat (first | exact List.Mem.head _ | apply List.Mem.tail)) (by rfl)) rfl ?_
       refine JL_val rfl (wn0 rfl) (RP.rv (rp_buildC (fun us => [us.getD 0 undef, us.getD 1 undef]) rfl rfl (fun w => by kernel_rfl))) rfl ?_
       refine JL_val rfl (wn0 rfl) (RP.rv (rp_fieldC (off' := 4) rfl rfl fa_56_3 rfl)) rfl ?_
       refine JL_val rfl (wn0 rfl) (RP.rv (rp_arrC (off' := 5) rfl rfl rfl ia_42_1 rfl)) rfl ?_
       refine JL_val rfl (wn0 rfl) (rv_cell rfl rfl ag_3 (by repeat (first | exact List.Mem.head _ | apply List.Mem.tail)) (by rfl)) rfl ?_
       refine JL_val rfl (wn0 rfl) (RP.rv (rp_fieldC (off' := 4) rfl rfl fa_56_3 rfl)) rfl ?_
       refine JL_val rfl (wn0 rfl) (RP.rv (rp_arrC (off' := 4) rfl rfl rfl ia_42_0 rfl)) rfl ?_
       refine JL_val rfl (wn0 rfl) (rv_cell rfl rfl ag_3 (by repeat (first | exact List.Mem.head _ | apply List.Mem.tail)) (by rfl)) rfl ?_
       refine JL_val rfl (wn0 rfl) (RP.rv (rp_buildC (fun us => [us.getD 0 undef, us.getD 1 undef]) rfl rfl (fun w => by kernel_rfl))) rfl ?_
       refine JL_val rfl (wn0 rfl) (RP.rv (rp_buildC (fun us => [us.getD 0 undef, us.getD 1 undef, us.getD 2 undef, us.getD 3 undef]) rfl rfl (fun w => by kernel_rfl))) rfl ?_
       refine JL_op (wn0 rfl) (ow_store (cs := [_, _, _, _, _, _]) (vs' := [_, _, _, _, _, _]) rfl rfl rfl rfl rfl sz_56 rfl (by repeat (first | exact At.here _ | apply At.there)) (by rfl) (by rfl)) (fun _ _ => ?_)
       refine JL_nil ?_
       exact JQ_cut ((v % ((O.length : Int) + 1)).toNat, swR x) ⟨by dsimp only; omega, .inr rfl⟩ ⟨rfl, rfl, rfl, rfl, rfl, rfl, rfl, (congrArg (fun z => some (Value.int .i64 z)) hva), trivial⟩ (by dsimp only [swR]; repeat (first | exact Pk.nil _ | (refine Pk.pick (by repeat (first | exact Rm.here _ | apply Rm.there)) ?_)))
      ·refine JL_nil ?_
       refine JQ_then_n ?_
       refine J_no rfl rfl ?_
       refine J_skip ?_
       exact JQ_cut ((v % ((O.length : Int) + 1)).toNat, x) ⟨by dsimp only; omega, .inl rfl⟩ ⟨rfl, rfl, rfl, rfl, rfl, rfl, rfl, (congrArg (fun z => some (Value.int .i64 z)) hva), trivial⟩ (by dsimp only [swR]; repeat (first | exact Pk.nil _ | (refine Pk.pick (by repeat (first | exact Rm.here _ | apply Rm.there)) ?_)))
     ·refine JL_nil ?_
      refine JQ_then_n ?_
      refine J_no rfl rfl ?_
      refine J_skip ?_
      exact JQ_cut (0, x) ⟨Nat.zero_le _, .inl rfl⟩ ⟨rfl, rfl, rfl, rfl, rfl, rfl, rfl, rfl, trivial⟩ (by dsimp only [swR]; repeat (first | exact Pk.nil _ | (refine Pk.pick (by repeat (first | exact Rm.here _ | apply Rm.there)) ?_)))
    ·rintro ⟨at', y⟩ ⟨hat, hy⟩
     dsimp only at hat hy ⊢
     refine J_seq ?_
     refine J_fact (fun hf => ?_)
     have hcap := own_cap (A := A9) (ty := 56) (k := 6) (m := O.length) (c := c9) hf (by repeat (first | exact List.Mem.head _ | apply List.Mem.tail))
     have hor := own_or (A := A9) (ty := 56) (k := 6) (m := O.length) (c := c9) hf (by repeat (first | exact List.Mem.head _ | apply List.Mem.tail))
     refine J_reg ?_
     refine JL_op (wn0 rfl) (ow_sliceC (ty := 56) rfl rfl rfl rfl rfl (fun _ => by kernel_rfl)) (fun b92 hb92 => ?_)
     refine JL_asOwn (b := b92) (ty := 56) (kk := 6) (m := 0) (by repeat (first | exact At.here _ | apply At.there)) rfl (by omega) ?_
     refine JM rfl rfl rfl rfl rfl ?_
     refine JM rfl rfl rfl rfl rfl ?_
     refine JL_val rfl (wn0 rfl) (RP.rv (rp_sliceTo (k := at') rfl rfl rfl Try.underlying44 sz_56 rfl (by omega))) rfl ?_
     refine JL_opS (wn0 rfl) (ow_appX (L := ([] : List Re)) (M := O.take at') ER (by decide) Try.underlying44 Try.info56 rfl (by decide) sz_56 rfl rfl rfl rfl rfl (by rw [List.length_take]; omega) (fun e => by rcases hor with h | ⟨g, h⟩; exact h.2.2; rw [h] at e; cases e) (Nat.le_refl 0) (fun w hw => (Arr.of_own ER (hw.ok (ownB 56 6 A9 O.length c9 (O.flatMap eR)) (by repeat (first | exact List.Mem.head _ | apply List.Mem.tail))).1 (by omega)).takeC (by omega)) (by rw [List.length_take, List.length_nil]; omega) (by intro A c; repeat (first | exact At.here _ | apply At.there))) (fun A96 c96 => ?_)
     simp only [List.nil_append]
     have htk : (O.take at').length ≤ 310 := by rw [List.length_take]; omega
     refine JN rfl rfl rfl rfl rfl ?_
     refine JL_nil ?_
     refine JQ_then_n ?_
     refine J_seq ?_
     refine J_keep (l' := [(0, _), (1, _), (2, _), (7, _), (9, _), (10, _), (11, _), (12, _), (13, _)]) ⟨rfl, rfl, rfl, rfl, rfl, rfl, rfl, rfl, rfl, trivial⟩ ?_
     refine J_reg ?_
     refine JM rfl rfl rfl rfl rfl ?_
     refine JL_val rfl (wn0 rfl) (rv_agg (cs := [_, _, _, _, _, _]) rfl rfl ag_56 sz_56 (by repeat (first | exact List.Mem.head _ | apply List.Mem.tail)) (by rfl)) rfl ?_
     refine JL_op (wn0 rfl) (ow_sliceC (vs := [_, _, _, _, _, _]) (ty := 56) rfl rfl (by rfl) rfl rfl (fun _ => by kernel_rfl)) (fun b99 hb99 => ?_)
     refine JL_opS (wn0 rfl) (ow_app1 ER (by decide) (y) Try.underlying44 Try.info56 rfl (by decide) rfl rfl rfl rfl rfl (by repeat (first | exact List.Mem.head _ | apply List.Mem.tail)) (by rfl) (by omega) (by intro A c; repeat (first | exact At.here _ | apply At.there))) (fun A100 c100 => ?_)
     refine JN rfl rfl rfl rfl rfl ?_
     refine JL_nil ?_
     refine JQ_then_n ?_
     refine J_keep (l' := [(0, _), (1, _), (2, _), (7, _), (9, _), (10, _), (12, _), (13, _)]) ⟨rfl, rfl, rfl, rfl, rfl, rfl, rfl, rfl, trivial⟩ ?_
     refine J_reg ?_
     refine JM rfl rfl rfl rfl rfl ?_
     refine JM rfl rfl rfl rfl rfl ?_
     refine JM rfl rfl rfl rfl rfl ?_
     refine JL_val rfl (wn0 rfl) (RP.rv (rp_sliceFrom (k := at') rfl rfl rfl Try.underlying44 sz_56 rfl (by omega))) rfl ?_
     refine JL_fact (fun hf2 => ?_)
     have hcap2 := own_cap (A := A100) (ty := 56) (k := 6) (c := c100) hf2 (by repeat (first | exact List.Mem.head _ | apply List.Mem.tail))
     refine JL_opS (wn0 rfl) (ow_appX (L := O.take at' ++ [y]) (M := O.drop at') ER (by decide) Try.underlying44 Try.info56 rfl (by decide) sz_56 rfl rfl rfl rfl rfl (by rw [List.length_drop]) (fun e => by rcases hor with h | ⟨g, h⟩; omega; rw [h] at e; split at e <;> cases e) hcap2.1 (fun w hw => (Arr.of_own ER (hw.ok (ownB 56 6 A9 O.length c9 (O.flatMap eR)) (by repeat (first | exact List.Mem.head _ | apply List.Mem.tail))).1 (by omega)).drop (by omega)) (by rw [List.length_append, List.length_take, List.length_drop, List.length_singleton]; omega) (by intro A c; repeat (first | exact At.here _ | apply At.there))) (fun A105 c105 => ?_)
     refine JN rfl rfl rfl rfl rfl ?_
     refine JL_nil ?_
     refine JQ_block_n ?_
     refine JQ_then_n ?_
     refine J_keep (l' := [(0, _), (1, _), (2, _), (7, _), (9, _), (10, _)]) ⟨rfl, rfl, rfl, rfl, rfl, rfl, trivial⟩ ?_
     refine J_reg ?_
     refine JM rfl rfl rfl rfl rfl ?_
     refine JL_val rfl (wn0 rfl) (RP.rv (rp2 rfl rfl (fun ρ hx hy w => ex_add rfl hx hy (by omega)))) rfl ?_
     refine JN rfl rfl rfl rfl rfl ?_
     refine JL_nil ?_
     have hlO : (O.take at' ++ [y] ++ O.drop at').length = k + 1 := by rw [List.length_append, List.length_append, List.length_take, List.length_drop, List.length_singleton]; omega
     have hyo := oth_ins (at_ := at') hoth hlt (x := y) (by rw [hx]; exact hy) (hv.ab _ (List.getElem_mem hlt))
     have hyw : ∀ z ∈ O.take at' ++ [y] ++ O.drop at', W6 z := by
      intro z hz
      rw [List.mem_append, List.mem_append, List.mem_singleton] at hz
      rcases hz with (hz | rfl) | hz
      ·exact hOw z (List.mem_of_mem_take hz)
      ·rcases hy with rfl | rfl
       ·exact hxw
       ·exact W6_sw hxw
      ·exact hOw z (List.mem_of_mem_drop hz)
     exact JQ_round (k + 1, A105, c105, O.take at' ++ [y] ++ O.drop at') ⟨by dsimp only; omega, hlO, hyo, hyw⟩ (by dsimp only; omega) ⟨rfl, rfl, rfl, rfl, rfl, (congrArg some (by go_num)), trivial⟩ (by repeat (first | exact Pk.nil _ | (refine Pk.pick (by repeat (first | exact Rm.here _ | apply Rm.there)) ?_)))
   ·refine JL_nil ?_
    refine JQ_then_n ?_
    refine J_no rfl rfl ?_
    refine J_exit ?_
    refine JQ_then_x ?_
    refine JQ_then_x ?_
    refine JQ_block_y rfl ?_
    refine JQ_then_n ?_
    refine J_seq ?_
    obtain rfl : k = l.length := by omega
    rw [List.take_length] at hoth
    obtain ⟨hco, hto⟩ := oth_same hc hoth
    refine J_keep (l' := [(0, _), (1, _), (7, _), (9, _)]) ⟨rfl, rfl, rfl, rfl, trivial⟩ ?_
    refine J_reg ?_
    refine JM rfl rfl rfl rfl rfl ?_
    refine JM rfl rfl rfl rfl rfl ?_
    refine JL_opS (wn0 rfl) (ow_callSE (L := tb) (E := 0) (ec_fn rfl rfl cf_25) rfl rfl (fun w hw => by have := Table25 T O _ w (Arr.of_own ER (hw.ok (ownB 56 6 A9 O.length c9 (O.flatMap eR)) (by repeat (first | exact List.Mem.head _ | apply List.Mem.tail))).1 (by omega)) hOw; rw [hco, hto, htb] at this; exact this)) (fun A109 c109 => ?_)
    refine JM rfl rfl rfl rfl rfl ?_
    refine JL_val rfl (wn0 rfl) (RP.rv (rp_run1 (f := fun u => Instr.extract u 0) (fun _ => rfl) rfl (fun _ => rfl))) rfl ?_
    refine JL_val rfl (wn0 rfl) (RP.rv (rp_run1 (f := fun u => Instr.extract u 1) (fun _ => rfl) rfl (fun _ => rfl))) rfl ?_
    refine JN rfl rfl rfl rfl rfl ?_
    refine JN rfl rfl rfl rfl rfl ?_
    refine JL_nil ?_
    refine JQ_then_n ?_
    refine J_seq ?_
    refine J_seq ?_
    refine J_keep (l' := [(0, _), (1, _), (7, _), (14, _), (15, _)]) ⟨rfl, rfl, rfl, rfl, rfl, trivial⟩ ?_
    refine J_reg ?_
    refine JM rfl rfl rfl rfl rfl ?_
    refine JL_val rfl (wn0 rfl) (RP.rv (rp2 rfl rfl (fun ρ hx hy w => ex_neq29 rfl hx hy))) rfl ?_
    refine JL_decF (by omega) ?_
    refine JM rfl rfl rfl rfl rfl ?_
    refine JL_val rfl (wn_g rfl rfl rfl rfl) (RP.rv (rp_move rfl rfl)) rfl ?_
    refine JL_val rfl (wn_g rfl rfl rfl rfl) (RP.rv (rp_move rfl rfl)) rfl ?_
    refine JL_op (wn_g rfl rfl rfl rfl) (ow_callB (ec_fn rfl rfl cf_31) rfl rfl (fun w hw => SameRows31 tb tb _ _ w (Arr.of_own EW (hw.ok (ownB 58 8 A109 tb.length c109 (tb.flatMap eW)) (by repeat (first | exact List.Mem.head _ | apply List.Mem.tail))).1 (by omega)) (Arr.of_own EW (hw.ok (ownB 58 8 A29 tb.length c29 (tb.flatMap eW)) (by repeat (first | exact List.Mem.head _ | apply List.Mem.tail))).1 (by omega)))) (fun _ _ => ?_)
    refine JL_boolT (decide_eq_true rfl) ?_
    refine JL_val rfl (wn_g rfl rfl rfl rfl) (RP.rv (rp1 rfl (fun ρ hx w => ex_not rfl hx))) rfl ?_
    refine JL_val rfl (wn0 rfl) (RP.rv (rp_pickF rfl rfl rfl)) rfl ?_
    refine JM rfl rfl rfl rfl rfl ?_
    refine JL_val rfl (wn_g rfl rfl rfl rfl) (RP.rv (rp_move rfl rfl)) rfl ?_
    refine JL_val rfl (wn_g rfl rfl rfl rfl) (RP.rv (rp1 rfl (fun ρ hx w => ex_len (A := _) (c := _) rfl Try.underlying45 hx))) rfl ?_
    refine JL_val rfl (wn_g rfl rfl rfl rfl) (RP.rv (rp_move rfl rfl)) rfl ?_
    refine JL_val rfl (wn_g rfl rfl rfl rfl) (RP.rv (rp2 rfl rfl (fun ρ hx hy w => ex_neqD rfl hx hy))) rfl ?_
    refine JL_decF (by omega) ?_
    refine JL_val rfl (wn0 rfl) (RP.rv (rp_pickF rfl rfl rfl)) rfl ?_
    refine JL_nil ?_
    refine JQ_then_n ?_
    refine J_no rfl rfl ?_
    refine J_skip ?_
    refine JQ_then_n ?_
    refine J_seq ?_
    refine J_fact (fun hf => ?_)
    obtain ⟨g29, rfl⟩ := own_some (A := A29) (ty := 58) (k := 8) (m := tb.length) hf (by repeat (first | exact List.Mem.head _ | apply List.Mem.tail)) (by omega)
    refine J_keep (l' := [(0, _), (1, _), (7, _)]) ⟨rfl, rfl, rfl, trivial⟩ ?_
    refine J_reg ?_
    refine JL_op (wn0 rfl) (ow_makeI rfl rfl rfl) (fun b126 hb126 => ?_)
    refine JN rfl rfl rfl rfl rfl ?_
    refine JL_nil ?_
    refine JQ_then_n ?_
    refine J_seq ?_
    refine J_reg ?_
    refine JN rfl rfl rfl rfl rfl ?_
    refine JN rfl rfl rfl rfl rfl ?_
    refine JN rfl rfl rfl rfl rfl ?_
    refine JL_nil ?_
    refine JQ_then_n ?_
    refine J_seq ?_
    refine J_seq ?_
    refine J_reg ?_
    refine JN rfl rfl rfl rfl rfl ?_
    refine JL_nil ?_
    refine JQ_then_n ?_
    refine J_block ?_
    refine J_loop (T := Nat) (fun i => i ≤ tb.length ∧ (0 ≤ (sumG (·.games) tb i) ∧ (sumG (·.games) tb i) ≤ 600 * (i : Int)) ∧ (0 ≤ (sumG (·.wins) tb i) ∧ (sumG (·.wins) tb i) ≤ 600 * (i : Int)) ∧ (-600000 * (i : Int) ≤ (sumG (fun r => r.fr - r.ag) tb i) ∧ (sumG (fun r => r.fr - r.ag) tb i) ≤ 600000 * (i : Int))) (fun i => [(0, .int .i64 T), (1, .slice A l.length c), (7, .slice (some ⟨g29, 0, none⟩) tb.length c29), (16, .map (some b126)), (17, .int .i64 (sumG (·.games) tb i)), (18, .int .i64 (sumG (·.wins) tb i)), (19, .int .i64 (sumG (fun r => r.fr - r.ag) tb i)), (20, .int .i64 (i : Nat))]) (fun i => [ownB 58 8 (some ⟨g29, 0, none⟩) tb.length c29 (tb.flatMap eW), setI b126 (tms tb i)]) (fun i => tb.length - i) 0 ⟨Nat.zero_le _, by simp [sumG], by simp [sumG], by simp [sumG]⟩ ⟨rfl, rfl, rfl, rfl, rfl, rfl, rfl, rfl, trivial⟩ (by repeat (first | exact Pk.nil _ | (refine Pk.pick (by repeat (first | exact Rm.here _ | apply Rm.there)) ?_))) ?_
    rintro i ⟨hi, hsg, hsw, hsp⟩
    refine J_seq ?_
    refine J_seq ?_
    refine J_reg ?_
    refine JM rfl rfl rfl rfl rfl ?_
    refine JM rfl rfl rfl rfl rfl ?_
    refine JL_val rfl (wn0 rfl) (RP.rv (rp1 rfl (fun ρ hx w => ex_len (A := _) (c := _) rfl Try.underlying45 hx))) rfl ?_
    refine JL_val rfl (wn0 rfl) (RP.rv (rp2 rfl rfl (fun ρ hx hy w => ex_lssD rfl hx hy))) rfl ?_
    refine JL_dec (fun h130 => ?_) (fun h130 => ?_)
    ·refine JL_nil ?_
     refine JQ_then_n ?_
     refine J_yes rfl rfl ?_
     refine J_skip ?_
     refine JQ_then_n ?_
     refine J_seq ?_
     refine J_block ?_
     refine J_seq ?_
     have hlt : i < tb.length := by omega
     obtain ⟨r, hr⟩ : ∃ r, tb[i]'hlt = r := ⟨_, rfl⟩
     obtain ⟨t1, t2, t3, t4, t5, t6⟩ := hok.team r (by rw [← hr]; exact List.getElem_mem _)
     have hpl := hok.place i hlt
     rw [hr] at hpl
     have hno := tms_no hok.uniq i hlt
     rw [hr] at hno
     have htl := tms_len tb i
     refine J_keep (l' := [(0, _), (1, _), (7, _), (16, _), (17, _), (18, _), (19, _), (20, _)]) ⟨rfl, rfl, rfl, rfl, rfl, rfl, rfl, rfl, trivial⟩ ?_
     refine J_reg ?_
     refine JM rfl rfl rfl rfl rfl ?_
     refine JM rfl rfl rfl rfl rfl ?_
     refine JL_val rfl (wn0 rfl) (RP.rv (rp2 rfl rfl (fun ρ hx hy w => ex_indexI (k := i) rfl hx hy rfl Try.underlying45 sz_58 (by omega)))) rfl ?_
     refine JL_val rfl (wn0 rfl) (rv_ownaggE (j := i) (cs := [_, _, _, _, _, _, _, _]) EW rfl rfl ag_58 sz_58 (by repeat (first | exact List.Mem.head _ | apply List.Mem.tail)) (by omega) (by rw [hr]; rfl)) rfl ?_
     refine JL_op (wn0 rfl) (ow_alloc rfl rfl zv_58 rfl rfl) (fun b21 hb21 => ?_)
     refine JL_op (wn0 rfl) (ow_store (cs := [_, _, _, _, _, _, _, _]) (vs' := [_, _, _, _, _, _, _, _]) rfl rfl rfl rfl rfl sz_58 rfl (by repeat (first | exact At.here _ | apply At.there)) (by rfl) (by rfl)) (fun _ _ => ?_)
     refine JL_nil ?_
     refine JQ_then_n ?_
     refine J_seq ?_
     refine J_seq ?_
     refine J_keep (l' := [(0, _), (1, _), (7, _), (16, _), (17, _), (18, _), (19, _), (20, _), (21, _)]) ⟨rfl, rfl, rfl, rfl, rfl, rfl, rfl, rfl, rfl, trivial⟩ ?_
     refine J_reg ?_
     refine JL_val rfl (wn0 rfl) (RP.rv (rp_fieldC (off' := 0) rfl rfl fa_58_0 rfl)) rfl ?_
     refine JL_val rfl (wn0 rfl) (rv_cell rfl rfl ag_3 (by repeat (first | exact List.Mem.head _ | apply List.Mem.tail)) (by rfl)) rfl ?_
     refine JL_val rfl (wn0 rfl) (RP.rv (rp2 rfl rfl (fun ρ hx hy w => ex_lssD rfl hx hy))) rfl ?_
     refine JL_decF (by omega) ?_
     refine JM rfl rfl rfl rfl rfl ?_
     refine JL_val rfl (wn_g rfl rfl rfl rfl) (RP.rv (rp_fieldC (off' := 0) rfl rfl fa_58_0 rfl)) rfl ?_
     refine JL_val rfl (wn_g rfl rfl rfl rfl) (rv_cell rfl rfl ag_3 (by repeat (first | exact List.Mem.head _ | apply List.Mem.tail)) (by rfl)) rfl ?_
     refine JL_val rfl (wn_g rfl rfl rfl rfl) (RP.rv (rp_move rfl rfl)) rfl ?_
     refine JL_val rfl (wn_g rfl rfl rfl rfl) (RP.rv (rp2 rfl rfl (fun ρ hx hy w => ex_geqD rfl hx hy))) rfl ?_
     refine JL_decF (by omega) ?_
     refine JL_val rfl (wn0 rfl) (RP.rv (rp_pickF rfl rfl rfl)) rfl ?_
     refine JM rfl rfl rfl rfl rfl ?_
     refine JL_val rfl (wn_g rfl rfl rfl rfl) (RP.rv (rp_move rfl rfl)) rfl ?_
     refine JL_val rfl (wn_g rfl rfl rfl rfl) (RP.rv (rp_fieldC (off' := 0) rfl rfl fa_58_0 rfl)) rfl ?_
     refine JL_val rfl (wn_g rfl rfl rfl rfl) (rv_cell rfl rfl ag_3 (by repeat (first | exact List.Mem.head _ | apply List.Mem.tail)) (by rfl)) rfl ?_
     refine JL_val rfl (wn_g rfl rfl rfl rfl) (rv_lookI r.team rfl rfl rfl (by repeat (first | exact List.Mem.head _ | apply List.Mem.tail)) (by unfold W64; omega)) rfl ?_
     refine JL_boolF hno ?_
     refine JL_val rfl (wn0 rfl) (RP.rv (rp_pickF rfl rfl rfl)) rfl ?_
     refine JM rfl rfl rfl rfl rfl ?_
     refine JL_val rfl (wn_g rfl rfl rfl rfl) (RP.rv (rp_fieldC (off' := 1) rfl rfl fa_58_1 rfl)) rfl ?_
     refine JL_val rfl (wn_g rfl rfl rfl rfl) (rv_cell rfl rfl ag_3 (by repeat (first | exact List.Mem.head _ | apply List.Mem.tail)) (by rfl)) rfl ?_
     refine JL_val rfl (wn_g rfl rfl rfl rfl) (RP.rv (rp2 rfl rfl (fun ρ hx hy w => ex_lssD rfl hx hy))) rfl ?_
     refine JL_decF (by omega) ?_
     refine JL_val rfl (wn0 rfl) (RP.rv (rp_pickF rfl rfl rfl)) rfl ?_
     refine JM rfl rfl rfl rfl rfl ?_
     refine JL_val rfl (wn_g rfl rfl rfl rfl) (RP.rv (rp_fieldC (off' := 1) rfl rfl fa_58_1 rfl)) rfl ?_
     refine JL_val rfl (wn_g rfl rfl rfl rfl) (rv_cell rfl rfl ag_3 (by repeat (first | exact List.Mem.head _ | apply List.Mem.tail)) (by rfl)) rfl ?_
     refine JL_val rfl (wn_g rfl rfl rfl rfl) (RP.rv (rp_move rfl rfl)) rfl ?_
     refine JL_val rfl (wn_g rfl rfl rfl rfl) (RP.rv (rp2 rfl rfl (fun ρ hx hy w => ex_add rfl hx hy (by omega)))) rfl ?_
     refine JL_val rfl (wn_g rfl rfl rfl rfl) (RP.rv (rp2 rfl rfl (fun ρ hx hy w => ex_gtrD rfl hx hy))) rfl ?_
     refine JL_decF (by omega) ?_
     refine JL_val rfl (wn0 rfl) (RP.rv (rp_pickF rfl rfl rfl)) rfl ?_
     refine JL_nil ?_
     refine JQ_then_n ?_
     refine J_no rfl rfl ?_
     refine J_skip ?_
     refine JQ_then_n ?_
     refine J_seq ?_
     refine J_keep (l' := [(0, _), (1, _), (7, _), (16, _), (17, _), (18, _), (19, _), (20, _), (21, _)]) ⟨rfl, rfl, rfl, rfl, rfl, rfl, rfl, rfl, rfl, trivial⟩ ?_
     refine J_reg ?_
     refine JM rfl rfl rfl rfl rfl ?_
     refine JL_val rfl (wn0 rfl) (RP.rv (rp_fieldC (off' := 0) rfl rfl fa_58_0 rfl)) rfl ?_
     refine JL_val rfl (wn0 rfl) (rv_cell rfl rfl ag_3 (by repeat (first | exact List.Mem.head _ | apply List.Mem.tail)) (by rfl)) rfl ?_
     refine JL_op (wn0 rfl) (ow_putI r.team rfl rfl rfl rfl rfl rfl (by repeat (first | exact At.here _ | apply At.there)) (by unfold W64; omega) (by omega)) (fun _ _ => ?_)
     refine JL_nil ?_
     refine JQ_then_n ?_
     refine J_seq ?_
     refine J_seq ?_
     refine J_draw [4, 10, 14, 20, 25, 31, 35, 43, 49, 53, 59, 63, 69] (by kernel_rfl) ?_
     refine JA_takeP (i := 0) rfl rfl (by kernel_rfl) (by kernel_rfl) (by kernel_rfl) rfl (wn0 rfl) (rp_move rfl rfl) rfl ?_
     refine JA_takeP (i := 1) rfl rfl (by kernel_rfl) (by kernel_rfl) (by kernel_rfl) rfl (wn0 rfl) (rp2 rfl rfl (fun ρ hx hy w => ex_gtrD rfl hx hy)) rfl ?_
     refine JA_dec (fun h168 => ?_) (fun h168 => ?_)
     ·obtain ⟨r', hr'⟩ : ∃ r, tb[i - 1]'(by omega) = r := ⟨_, rfl⟩
      obtain ⟨n1, n2, n3, n4⟩ := hok.next i hlt (by omega)
      rw [hr, hr'] at n1 n2 n3 n4
      refine JA_takeP (i := 2) rfl rfl (by kernel_rfl) (by kernel_rfl) (by kernel_rfl) rfl (wn0 rfl) (rp_move rfl rfl) rfl ?_
      refine JA_takeP (i := 3) rfl rfl (by kernel_rfl) (by kernel_rfl) (by kernel_rfl) rfl (wn_g rfl rfl rfl rfl) (rp_fieldC (off' := 3) rfl rfl fa_58_3 rfl) rfl ?_
      refine JA_takeL (i := 4) rfl rfl (by kernel_rfl) (by kernel_rfl) (by kernel_rfl) rfl rfl (by repeat (first | exact Pk.nil _ | (refine Pk.pick (by repeat (first | exact Rm.here _ | apply Rm.there)) ?_))) (wn_g rfl rfl rfl rfl) (rv_cell rfl rfl ag_3 (by repeat (first | exact List.Mem.head _ | apply List.Mem.tail)) (by rfl)) rfl ?_
      refine JA_takeP (i := 5) rfl rfl (by kernel_rfl) (by kernel_rfl) (by kernel_rfl) rfl (wn_g rfl rfl rfl rfl) (rp_move rfl rfl) rfl ?_
      refine JA_takeP (i := 6) rfl rfl (by kernel_rfl) (by kernel_rfl) (by kernel_rfl) rfl (wn_g rfl rfl rfl rfl) (rp_move rfl rfl) rfl ?_
      refine JA_takeP (i := 7) rfl rfl (by kernel_rfl) (by kernel_rfl) (by kernel_rfl) rfl (wn_g rfl rfl rfl rfl) (rp2 rfl rfl (fun ρ hx hy w => ex_sub rfl hx hy (by omega))) rfl ?_
      refine JA_takeP (i := 8) rfl rfl (by kernel_rfl) (by kernel_rfl) (by kernel_rfl) rfl (wn_g rfl rfl rfl rfl) (rp2 rfl rfl (fun ρ hx hy w => ex_indexI (k := i - 1) rfl hx hy (by omega) Try.underlying45 sz_58 (by omega))) rfl ?_
      refine JA_takeP (i := 9) rfl rfl (by kernel_rfl) (by kernel_rfl) (by kernel_rfl) rfl (wn_g rfl rfl rfl rfl) (rp_fieldE (i' := 3) rfl rfl fa_58_3 rfl) rfl ?_
      refine JA_takeL (i := 10) rfl rfl (by kernel_rfl) (by kernel_rfl) (by kernel_rfl) rfl rfl (by repeat (first | exact Pk.nil _ | (refine Pk.pick (by repeat (first | exact Rm.here _ | apply Rm.there)) ?_))) (wn_g rfl rfl rfl rfl) (rv_ownE (k := 8) (j := i - 1) EW rfl rfl ag_3 (by repeat (first | exact List.Mem.head _ | apply List.Mem.tail)) (by omega) (by omega) (by rw [hr']; rfl)) rfl ?_
      refine JA_takeP (i := 11) rfl rfl (by kernel_rfl) (by kernel_rfl) (by kernel_rfl) rfl (wn_g rfl rfl rfl rfl) (rp2 rfl rfl (fun ρ hx hy w => ex_gtrD rfl hx hy)) rfl ?_
      refine JA_decF (by omega) ?_
      refine JA_takeP (i := 12) rfl rfl (by kernel_rfl) (by kernel_rfl) (by kernel_rfl) rfl (wn_g rfl rfl rfl rfl) (rp_move rfl rfl) rfl ?_
      refine JA_takeP (i := 13) rfl rfl (by kernel_rfl) (by kernel_rfl) (by kernel_rfl) rfl (wn_g rfl rfl rfl rfl) (rp_fieldC (off' := 1) rfl rfl fa_58_1 rfl) rfl ?_
      refine JA_takeL (i := 14) rfl rfl (by kernel_rfl) (by kernel_rfl) (by kernel_rfl) rfl rfl (by repeat (first | exact Pk.nil _ | (refine Pk.pick (by repeat (first | exact Rm.here _ | apply Rm.there)) ?_))) (wn_g rfl rfl rfl rfl) (rv_cell rfl rfl ag_3 (by repeat (first | exact List.Mem.head _ | apply List.Mem.tail)) (by rfl)) rfl ?_
      refine JA_takeP (i := 15) rfl rfl (by kernel_rfl) (by kernel_rfl) (by kernel_rfl) rfl (wn_g rfl rfl rfl rfl) (rp_move rfl rfl) rfl ?_
      refine JA_takeP (i := 16) rfl rfl (by kernel_rfl) (by kernel_rfl) (by kernel_rfl) rfl (wn_g rfl rfl rfl rfl) (rp_move rfl rfl) rfl ?_
      refine JA_takeP (i := 17) rfl rfl (by kernel_rfl) (by kernel_rfl) (by kernel_rfl) rfl (wn_g rfl rfl rfl rfl) (rp2 rfl rfl (fun ρ hx hy w => ex_sub rfl hx hy (by omega))) rfl ?_
      refine JA_takeP (i := 18) rfl rfl (by kernel_rfl) (by kernel_rfl) (by kernel_rfl) rfl (wn_g rfl rfl rfl rfl) (rp2 rfl rfl (fun ρ hx hy w => ex_indexI (k := i - 1) rfl hx hy (by omega) Try.underlying45 sz_58 (by omega))) rfl ?_
      refine JA_takeP (i := 19) rfl rfl (by kernel_rfl) (by kernel_rfl) (by kernel_rfl) rfl (wn_g rfl rfl rfl rfl) (rp_fieldE (i' := 1) rfl rfl fa_58_1 rfl) rfl ?_
      refine JA_takeL (i := 20) rfl rfl (by kernel_rfl) (by kernel_rfl) (by kernel_rfl) rfl rfl (by repeat (first | exact Pk.nil _ | (refine Pk.pick (by repeat (first | exact Rm.here _ | apply Rm.there)) ?_))) (wn_g rfl rfl rfl rfl) (rv_ownE (k := 8) (j := i - 1) EW rfl rfl ag_3 (by repeat (first | exact List.Mem.head _ | apply List.Mem.tail)) (by omega) (by omega) (by rw [hr']; rfl)) rfl ?_
      refine JA_takeP (i := 21) rfl rfl (by kernel_rfl) (by kernel_rfl) (by kernel_rfl) rfl (wn_g rfl rfl rfl rfl) (rp2 rfl rfl (fun ρ hx hy w => ex_lssD rfl hx hy)) rfl ?_
      refine JA_decF (by omega) ?_
      refine JA_takeP (i := 22) rfl rfl (by kernel_rfl) (by kernel_rfl) (by kernel_rfl) rfl (wn_g rfl rfl rfl rfl) (rp_pickF rfl rfl rfl) rfl ?_
      refine JA_takeP (i := 23) rfl rfl (by kernel_rfl) (by kernel_rfl) (by kernel_rfl) rfl (wn_g rfl rfl rfl rfl) (rp_move rfl rfl) rfl ?_
      refine JA_takeP (i := 24) rfl rfl (by kernel_rfl) (by kernel_rfl) (by kernel_rfl) rfl (wn_g rfl rfl rfl rfl) (rp_fieldC (off' := 1) rfl rfl fa_58_1 rfl) rfl ?_
      refine JA_takeL (i := 25) rfl rfl (by kernel_rfl) (by kernel_rfl) (by kernel_rfl) rfl rfl (by repeat (first | exact Pk.nil _ | (refine Pk.pick (by repeat (first | exact Rm.here _ | apply Rm.there)) ?_))) (wn_g rfl rfl rfl rfl) (rv_cell rfl rfl ag_3 (by repeat (first | exact List.Mem.head _ | apply List.Mem.tail)) (by rfl)) rfl ?_
      refine JA_takeP (i := 26) rfl rfl (by kernel_rfl) (by kernel_rfl) (by kernel_rfl) rfl (wn_g rfl rfl rfl rfl) (rp_move rfl rfl) rfl ?_
      refine JA_takeP (i := 27) rfl rfl (by kernel_rfl) (by kernel_rfl) (by kernel_rfl) rfl (wn_g rfl rfl rfl rfl) (rp_move rfl rfl) rfl ?_
      refine JA_takeP (i := 28) rfl rfl (by kernel_rfl) (by kernel_rfl) (by kernel_rfl) rfl (wn_g rfl rfl rfl rfl) (rp2 rfl rfl (fun ρ hx hy w => ex_sub rfl hx hy (by omega))) rfl ?_
      refine JA_takeP (i := 29) rfl rfl (by kernel_rfl) (by kernel_rfl) (by kernel_rfl) rfl (wn_g rfl rfl rfl rfl) (rp2 rfl rfl (fun ρ hx hy w => ex_indexI (k := i - 1) rfl hx hy (by omega) Try.underlying45 sz_58 (by omega))) rfl ?_
      refine JA_takeP (i := 30) rfl rfl (by kernel_rfl) (by kernel_rfl) (by kernel_rfl) rfl (wn_g rfl rfl rfl rfl) (rp_fieldE (i' := 1) rfl rfl fa_58_1 rfl) rfl ?_
      refine JA_takeL (i := 31) rfl rfl (by kernel_rfl) (by kernel_rfl) (by kernel_rfl) rfl rfl (by repeat (first | exact Pk.nil _ | (refine Pk.pick (by repeat (first | exact Rm.here _ | apply Rm.there)) ?_))) (wn_g rfl rfl rfl rfl) (rv_ownE (k := 8) (j := i - 1) EW rfl rfl ag_3 (by repeat (first | exact List.Mem.head _ | apply List.Mem.tail)) (by omega) (by omega) (by rw [hr']; rfl)) rfl ?_
      refine JA_takeP (i := 32) rfl rfl (by kernel_rfl) (by kernel_rfl) (by kernel_rfl) rfl (wn_g rfl rfl rfl rfl) (rp2 rfl rfl (fun ρ hx hy w => ex_neqD rfl hx hy)) rfl ?_
      refine JA_dec (fun h199 => ?_) (fun h199 => ?_)
      ·refine JA_takeP (i := 33) rfl rfl (by kernel_rfl) (by kernel_rfl) (by kernel_rfl) rfl (wn_g rfl rfl rfl rfl) (rp_move rfl rfl) rfl ?_
       refine JA_takeP (i := 34) rfl rfl (by kernel_rfl) (by kernel_rfl) (by kernel_rfl) rfl (wn_g rfl rfl rfl rfl) (rp_fieldC (off' := 1) rfl rfl fa_58_1 rfl) rfl ?_
       refine JA_takeL (i := 35) rfl rfl (by kernel_rfl) (by kernel_rfl) (by kernel_rfl) rfl rfl (by repeat (first | exact Pk.nil _ | (refine Pk.pick (by repeat (first | exact Rm.here _ | apply Rm.there)) ?_))) (wn_g rfl rfl rfl rfl) (rv_cell rfl rfl ag_3 (by repeat (first | exact List.Mem.head _ | apply List.Mem.tail)) (by rfl)) rfl ?_
       refine JA_takeP (i := 36) rfl rfl (by kernel_rfl) (by kernel_rfl) (by kernel_rfl) rfl (wn_g rfl rfl rfl rfl) (rp_move rfl rfl) rfl ?_
       refine JA_takeP (i := 37) rfl rfl (by kernel_rfl) (by kernel_rfl) (by kernel_rfl) rfl (wn_g rfl rfl rfl rfl) (rp2 rfl rfl (fun ρ hx hy w => ex_add rfl hx hy (by omega))) rfl ?_
       refine JA_takeP (i := 38) rfl rfl (by kernel_rfl) (by kernel_rfl) (by kernel_rfl) rfl (wn_g rfl rfl rfl rfl) (rp2 rfl rfl (fun ρ hx hy w => ex_neqD rfl hx hy)) rfl ?_
       refine JA_decF (by have := n3 (by omega); omega) ?_
       refine JA_takeP (i := 39) rfl rfl (by kernel_rfl) (by kernel_rfl) (by kernel_rfl) rfl (wn_g rfl rfl rfl rfl) (rp_pickT rfl rfl rfl) rfl ?_
       refine JA_takeP (i := 40) rfl rfl (by kernel_rfl) (by kernel_rfl) (by kernel_rfl) rfl (wn_g rfl rfl rfl rfl) (rp_pickF rfl rfl rfl) rfl ?_
       refine JA_takeP (i := 41) rfl rfl (by kernel_rfl) (by kernel_rfl) (by kernel_rfl) rfl (wn_g rfl rfl rfl rfl) (rp_move rfl rfl) rfl ?_
       refine JA_takeP (i := 42) rfl rfl (by kernel_rfl) (by kernel_rfl) (by kernel_rfl) rfl (wn_g rfl rfl rfl rfl) (rp_fieldC (off' := 1) rfl rfl fa_58_1 rfl) rfl ?_
       refine JA_takeL (i := 43) rfl rfl (by kernel_rfl) (by kernel_rfl) (by kernel_rfl) rfl rfl (by repeat (first | exact Pk.nil _ | (refine Pk.pick (by repeat (first | exact Rm.here _ | apply Rm.there)) ?_))) (wn_g rfl rfl rfl rfl) (rv_cell rfl rfl ag_3 (by repeat (first | exact List.Mem.head _ | apply List.Mem.tail)) (by rfl)) rfl ?_
       refine JA_takeP (i := 44) rfl rfl (by kernel_rfl) (by kernel_rfl) (by kernel_rfl) rfl (wn_g rfl rfl rfl rfl) (rp_move rfl rfl) rfl ?_
       refine JA_takeP (i := 45) rfl rfl (by kernel_rfl) (by kernel_rfl) (by kernel_rfl) rfl (wn_g rfl rfl rfl rfl) (rp_move rfl rfl) rfl ?_
       refine JA_takeP (i := 46) rfl rfl (by kernel_rfl) (by kernel_rfl) (by kernel_rfl) rfl (wn_g rfl rfl rfl rfl) (rp2 rfl rfl (fun ρ hx hy w => ex_sub rfl hx hy (by omega))) rfl ?_
       refine JA_takeP (i := 47) rfl rfl (by kernel_rfl) (by kernel_rfl) (by kernel_rfl) rfl (wn_g rfl rfl rfl rfl) (rp2 rfl rfl (fun ρ hx hy w => ex_indexI (k := i - 1) rfl hx hy (by omega) Try.underlying45 sz_58 (by omega))) rfl ?_
       refine JA_takeP (i := 48) rfl rfl (by kernel_rfl) (by kernel_rfl) (by kernel_rfl) rfl (wn_g rfl rfl rfl rfl) (rp_fieldE (i' := 1) rfl rfl fa_58_1 rfl) rfl ?_
       refine JA_takeL (i := 49) rfl rfl (by kernel_rfl) (by kernel_rfl) (by kernel_rfl) rfl rfl (by repeat (first | exact Pk.nil _ | (refine Pk.pick (by repeat (first | exact Rm.here _ | apply Rm.there)) ?_))) (wn_g rfl rfl rfl rfl) (rv_ownE (k := 8) (j := i - 1) EW rfl rfl ag_3 (by repeat (first | exact List.Mem.head _ | apply List.Mem.tail)) (by omega) (by omega) (by rw [hr']; rfl)) rfl ?_
       refine JA_takeP (i := 50) rfl rfl (by kernel_rfl) (by kernel_rfl) (by kernel_rfl) rfl (wn_g rfl rfl rfl rfl) (rp2 rfl rfl (fun ρ hx hy w => ex_eqlD rfl hx hy)) rfl ?_
       refine JA_dec (fun h217 => ?_) (fun h217 => ?_)
       ·refine JA_takeP (i := 51) rfl rfl (by kernel_rfl) (by kernel_rfl) (by kernel_rfl) rfl (wn_g rfl rfl rfl rfl) (rp_move rfl rfl) rfl ?_
        refine JA_takeP (i := 52) rfl rfl (by kernel_rfl) (by kernel_rfl) (by kernel_rfl) rfl (wn_g rfl rfl rfl rfl) (rp_fieldC (off' := 3) rfl rfl fa_58_3 rfl) rfl ?_
        refine JA_takeL (i := 53) rfl rfl (by kernel_rfl) (by kernel_rfl) (by kernel_rfl) rfl rfl (by repeat (first | exact Pk.nil _ | (refine Pk.pick (by repeat (first | exact Rm.here _ | apply Rm.there)) ?_))) (wn_g rfl rfl rfl rfl) (rv_cell rfl rfl ag_3 (by repeat (first | exact List.Mem.head _ | apply List.Mem.tail)) (by rfl)) rfl ?_
        refine JA_takeP (i := 54) rfl rfl (by kernel_rfl) (by kernel_rfl) (by kernel_rfl) rfl (wn_g rfl rfl rfl rfl) (rp_move rfl rfl) rfl ?_
        refine JA_takeP (i := 55) rfl rfl (by kernel_rfl) (by kernel_rfl) (by kernel_rfl) rfl (wn_g rfl rfl rfl rfl) (rp_move rfl rfl) rfl ?_
        refine JA_takeP (i := 56) rfl rfl (by kernel_rfl) (by kernel_rfl) (by kernel_rfl) rfl (wn_g rfl rfl rfl rfl) (rp2 rfl rfl (fun ρ hx hy w => ex_sub rfl hx hy (by omega))) rfl ?_
        refine JA_takeP (i := 57) rfl rfl (by kernel_rfl) (by kernel_rfl) (by kernel_rfl) rfl (wn_g rfl rfl rfl rfl) (rp2 rfl rfl (fun ρ hx hy w => ex_indexI (k := i - 1) rfl hx hy (by omega) Try.underlying45 sz_58 (by omega))) rfl ?_
        refine JA_takeP (i := 58) rfl rfl (by kernel_rfl) (by kernel_rfl) (by kernel_rfl) rfl (wn_g rfl rfl rfl rfl) (rp_fieldE (i' := 3) rfl rfl fa_58_3 rfl) rfl ?_
        refine JA_takeL (i := 59) rfl rfl (by kernel_rfl) (by kernel_rfl) (by kernel_rfl) rfl rfl (by repeat (first | exact Pk.nil _ | (refine Pk.pick (by repeat (first | exact Rm.here _ | apply Rm.there)) ?_))) (wn_g rfl rfl rfl rfl) (rv_ownE (k := 8) (j := i - 1) EW rfl rfl ag_3 (by repeat (first | exact List.Mem.head _ | apply List.Mem.tail)) (by omega) (by omega) (by rw [hr']; rfl)) rfl ?_
        refine JA_takeP (i := 60) rfl rfl (by kernel_rfl) (by kernel_rfl) (by kernel_rfl) rfl (wn_g rfl rfl rfl rfl) (rp2 rfl rfl (fun ρ hx hy w => ex_neqD rfl hx hy)) rfl ?_
        refine JA_decF (by have := n4 (by omega); omega) ?_
        refine JA_takeP (i := 61) rfl rfl (by kernel_rfl) (by kernel_rfl) (by kernel_rfl) rfl (wn_g rfl rfl rfl rfl) (rp_move rfl rfl) rfl ?_
        refine JA_takeP (i := 62) rfl rfl (by kernel_rfl) (by kernel_rfl) (by kernel_rfl) rfl (wn_g rfl rfl rfl rfl) (rp_fieldC (off' := 0) rfl rfl fa_58_0 rfl) rfl ?_
        refine JA_takeL (i := 63) rfl rfl (by kernel_rfl) (by kernel_rfl) (by kernel_rfl) rfl rfl (by repeat (first | exact Pk.nil _ | (refine Pk.pick (by repeat (first | exact Rm.here _ | apply Rm.there)) ?_))) (wn_g rfl rfl rfl rfl) (rv_cell rfl rfl ag_3 (by repeat (first | exact List.Mem.head _ | apply List.Mem.tail)) (by rfl)) rfl ?_
        refine JA_takeP (i := 64) rfl rfl (by kernel_rfl) (by kernel_rfl) (by kernel_rfl) rfl (wn_g rfl rfl rfl rfl) (rp_move rfl rfl) rfl ?_
        refine JA_takeP (i := 65) rfl rfl (by kernel_rfl) (by kernel_rfl) (by kernel_rfl) rfl (wn_g rfl rfl rfl rfl) (rp_move rfl rfl) rfl ?_
        refine JA_takeP (i := 66) rfl rfl (by kernel_rfl) (by kernel_rfl) (by kernel_rfl) rfl (wn_g rfl rfl rfl rfl) (rp2 rfl rfl (fun ρ hx hy w => ex_sub rfl hx hy (by omega))) rfl ?_
        refine JA_takeP (i := 67) rfl rfl (by kernel_rfl) (by kernel_rfl) (by kernel_rfl) rfl (wn_g rfl rfl rfl rfl) (rp2 rfl rfl (fun ρ hx hy w => ex_indexI (k := i - 1) rfl hx hy (by omega) Try.underlying45 sz_58 (by omega))) rfl ?_
        refine JA_takeP (i := 68) rfl rfl (by kernel_rfl) (by kernel_rfl) (by kernel_rfl) rfl (wn_g rfl rfl rfl rfl) (rp_fieldE (i' := 0) rfl rfl fa_58_0 rfl) rfl ?_
        refine JA_takeL (i := 69) rfl rfl (by kernel_rfl) (by kernel_rfl) (by kernel_rfl) rfl rfl (by repeat (first | exact Pk.nil _ | (refine Pk.pick (by repeat (first | exact Rm.here _ | apply Rm.there)) ?_))) (wn_g rfl rfl rfl rfl) (rv_ownE (k := 8) (j := i - 1) EW rfl rfl ag_3 (by repeat (first | exact List.Mem.head _ | apply List.Mem.tail)) (by omega) (by omega) (by rw [hr']; rfl)) rfl ?_
        refine JA_takeP (i := 70) rfl rfl (by kernel_rfl) (by kernel_rfl) (by kernel_rfl) rfl (wn_g rfl rfl rfl rfl) (rp2 rfl rfl (fun ρ hx hy w => ex_lssD rfl hx hy)) rfl ?_
        refine JA_decF (by have := n4 (by omega); omega) ?_
        refine JA_takeP (i := 71) rfl rfl (by kernel_rfl) (by kernel_rfl) (by kernel_rfl) rfl (wn_g rfl rfl rfl rfl) (rp_pickF rfl rfl rfl) rfl ?_
        refine JA_takeP (i := 72) rfl rfl (by kernel_rfl) (by kernel_rfl) (by kernel_rfl) rfl (wn_g rfl rfl rfl rfl) (rp_pickT rfl rfl rfl) rfl ?_
        refine JA_takeP (i := 73) rfl rfl (by kernel_rfl) (by kernel_rfl) (by kernel_rfl) rfl (wn_g rfl rfl rfl rfl) (rp_pickF rfl rfl rfl) rfl ?_
        refine JA_takeP (i := 74) rfl rfl (by kernel_rfl) (by kernel_rfl) (by kernel_rfl) rfl (wn0 rfl) (rp_pickT rfl rfl rfl) rfl ?_
        refine JA_done (by kernel_rfl) ?_
        refine JQ_then_n ?_
        refine J_no rfl rfl ?_
        refine J_skip ?_
        refine JQ_then_n ?_
        refine J_keep (l' := [(0, _), (1, _), (7, _), (16, _), (17, _), (18, _), (19, _), (20, _), (21, _)]) ⟨rfl, rfl, rfl, rfl, rfl, rfl, rfl, rfl, rfl, trivial⟩ ?_
        refine J_draw [2, 6, 10, 13] (by kernel_rfl) ?_
        refine JA_takeP (i := 0) rfl rfl (by kernel_rfl) (by kernel_rfl) (by kernel_rfl) rfl (wn0 rfl) (rp_move rfl rfl) rfl ?_
        refine JA_takeP (i := 1) rfl rfl (by kernel_rfl) (by kernel_rfl) (by kernel_rfl) rfl (wn0 rfl) (rp_fieldC (off' := 2) rfl rfl fa_58_2 rfl) rfl ?_
        refine JA_takeL (i := 2) rfl rfl (by kernel_rfl) (by kernel_rfl) (by kernel_rfl) rfl rfl (by repeat (first | exact Pk.nil _ | (refine Pk.pick (by repeat (first | exact Rm.here _ | apply Rm.there)) ?_))) (wn0 rfl) (rv_cell rfl rfl ag_3 (by repeat (first | exact List.Mem.head _ | apply List.Mem.tail)) (by rfl)) rfl ?_
        refine JA_takeP (i := 3) rfl rfl (by kernel_rfl) (by kernel_rfl) (by kernel_rfl) rfl (wn0 rfl) (rp2 rfl rfl (fun ρ hx hy w => ex_add rfl hx hy (by omega))) rfl ?_
        refine JA_takeP (i := 4) rfl rfl (by kernel_rfl) (by kernel_rfl) (by kernel_rfl) rfl (wn0 rfl) (rp_move rfl rfl) rfl ?_
        refine JA_takeP (i := 5) rfl rfl (by kernel_rfl) (by kernel_rfl) (by kernel_rfl) rfl (wn0 rfl) (rp_fieldC (off' := 3) rfl rfl fa_58_3 rfl) rfl ?_
        refine JA_takeL (i := 6) rfl rfl (by kernel_rfl) (by kernel_rfl) (by kernel_rfl) rfl rfl (by repeat (first | exact Pk.nil _ | (refine Pk.pick (by repeat (first | exact Rm.here _ | apply Rm.there)) ?_))) (wn0 rfl) (rv_cell rfl rfl ag_3 (by repeat (first | exact List.Mem.head _ | apply List.Mem.tail)) (by rfl)) rfl ?_
        refine JA_takeP (i := 7) rfl rfl (by kernel_rfl) (by kernel_rfl) (by kernel_rfl) rfl (wn0 rfl) (rp2 rfl rfl (fun ρ hx hy w => ex_add rfl hx hy (by omega))) rfl ?_
        refine JA_takeP (i := 8) rfl rfl (by kernel_rfl) (by kernel_rfl) (by kernel_rfl) rfl (wn0 rfl) (rp_move rfl rfl) rfl ?_
        refine JA_takeP (i := 9) rfl rfl (by kernel_rfl) (by kernel_rfl) (by kernel_rfl) rfl (wn0 rfl) (rp_fieldC (off' := 4) rfl rfl fa_58_4 rfl) rfl ?_
        refine JA_takeL (i := 10) rfl rfl (by kernel_rfl) (by kernel_rfl) (by kernel_rfl) rfl rfl (by repeat (first | exact Pk.nil _ | (refine Pk.pick (by repeat (first | exact Rm.here _ | apply Rm.there)) ?_))) (wn0 rfl) (rv_cell rfl rfl ag_3 (by repeat (first | exact List.Mem.head _ | apply List.Mem.tail)) (by rfl)) rfl ?_
        refine JA_takeP (i := 11) rfl rfl (by kernel_rfl) (by kernel_rfl) (by kernel_rfl) rfl (wn0 rfl) (rp2 rfl rfl (fun ρ hx hy w => ex_add rfl hx hy (by omega))) rfl ?_
        refine JA_takeP (i := 12) rfl rfl (by kernel_rfl) (by kernel_rfl) (by kernel_rfl) rfl (wn0 rfl) (rp_fieldC (off' := 5) rfl rfl fa_58_5 rfl) rfl ?_
        refine JA_takeL (i := 13) rfl rfl (by kernel_rfl) (by kernel_rfl) (by kernel_rfl) rfl rfl (by repeat (first | exact Pk.nil _ | (refine Pk.pick (by repeat (first | exact Rm.here _ | apply Rm.there)) ?_))) (wn0 rfl) (rv_cell rfl rfl ag_3 (by repeat (first | exact List.Mem.head _ | apply List.Mem.tail)) (by rfl)) rfl ?_
        refine JA_takeP (i := 14) rfl rfl (by kernel_rfl) (by kernel_rfl) (by kernel_rfl) rfl (wn0 rfl) (rp2 rfl rfl (fun ρ hx hy w => ex_sub rfl hx hy (by omega))) rfl ?_
        refine JA_takeP (i := 15) rfl rfl (by kernel_rfl) (by kernel_rfl) (by kernel_rfl) rfl (wn0 rfl) (rp_assign rfl rfl) rfl ?_
        refine JA_takeP (i := 16) rfl rfl (by kernel_rfl) (by kernel_rfl) (by kernel_rfl) rfl (wn0 rfl) (rp_assign rfl rfl) rfl ?_
        refine JA_takeP (i := 17) rfl rfl (by kernel_rfl) (by kernel_rfl) (by kernel_rfl) rfl (wn0 rfl) (rp_assign rfl rfl) rfl ?_
        refine JA_done (by kernel_rfl) ?_
        refine JQ_block_n ?_
        refine JQ_then_n ?_
        refine J_keep (l' := [(0, _), (1, _), (7, _), (16, _), (17, _), (18, _), (19, _), (20, _)]) ⟨rfl, rfl, rfl, rfl, rfl, rfl, rfl, rfl, trivial⟩ ?_
        refine J_reg ?_
        refine JM rfl rfl rfl rfl rfl ?_
        refine JL_val rfl (wn0 rfl) (RP.rv (rp2 rfl rfl (fun ρ hx hy w => ex_add rfl hx hy (by omega)))) rfl ?_
        refine JN rfl rfl rfl rfl rfl ?_
        refine JL_nil ?_
        have e1 : sumG (·.games) tb (i + 1) = sumG (·.games) tb i + r.games := by rw [sumG_succ _ tb i hlt, hr]
        have e2 : sumG (·.wins) tb (i + 1) = sumG (·.wins) tb i + r.wins := by rw [sumG_succ _ tb i hlt, hr]
        have e3 : sumG (fun r => r.fr - r.ag) tb (i + 1) = sumG (fun r => r.fr - r.ag) tb i + r.fr - r.ag := by rw [sumG_succ _ tb i hlt, hr]; omega
        have e4 : tms tb (i + 1) = r.team :: tms tb i := by rw [tms_succ tb i hlt, hr]
        exact JQ_round (i + 1) ⟨by omega, by rw [e1]; omega, by rw [e2]; omega, by rw [e3]; omega⟩ (by omega) ⟨rfl, rfl, rfl, rfl, (by rw [e1]; rfl), (by rw [e2]; rfl), (by rw [e3]; rfl), (congrArg some (by go_num)), trivial⟩ (by (try dsimp only); rw [e4]; repeat (first | exact Pk.nil _ | (refine Pk.pick (by repeat (first | exact Rm.here _ | apply Rm.there)) ?_)))
       ·refine JA_takeP (i := 51) rfl rfl (by kernel_rfl) (by kernel_rfl) (by kernel_rfl) rfl (wn_g rfl rfl rfl rfl) (rp_move rfl rfl) rfl ?_
        refine JA_off (i := 52) rfl rfl (by kernel_rfl) (by kernel_rfl) (by kernel_rfl) rfl (wn_g rfl rfl rfl rfl) rfl ?_
        refine JA_offL (i := 53) rfl rfl (by kernel_rfl) (by kernel_rfl) (by kernel_rfl) rfl (by repeat (first | exact Pk.nil _ | (refine Pk.pick (by repeat (first | exact Rm.here _ | apply Rm.there)) ?_))) (wn_g rfl rfl rfl rfl) rfl ?_
        refine JA_off (i := 54) rfl rfl (by kernel_rfl) (by kernel_rfl) (by kernel_rfl) rfl (wn_g rfl rfl rfl rfl) rfl ?_
        refine JA_off (i := 55) rfl rfl (by kernel_rfl) (by kernel_rfl) (by kernel_rfl) rfl (wn_g rfl rfl rfl rfl) rfl ?_
        refine JA_off (i := 56) rfl rfl (by kernel_rfl) (by kernel_rfl) (by kernel_rfl) rfl (wn_g rfl rfl rfl rfl) rfl ?_
        refine JA_off (i := 57) rfl rfl (by kernel_rfl) (by kernel_rfl) (by kernel_rfl) rfl (wn_g rfl rfl rfl rfl) rfl ?_
        refine JA_off (i := 58) rfl rfl (by kernel_rfl) (by kernel_rfl) (by kernel_rfl) rfl (wn_g rfl rfl rfl rfl) rfl ?_
        refine JA_offL (i := 59) rfl rfl (by kernel_rfl) (by kernel_rfl) (by kernel_rfl) rfl (by repeat (first | exact Pk.nil _ | (refine Pk.pick (by repeat (first | exact Rm.here _ | apply Rm.there)) ?_))) (wn_g rfl rfl rfl rfl) rfl ?_
        refine JA_off (i := 60) rfl rfl (by kernel_rfl) (by kernel_rfl) (by kernel_rfl) rfl (wn_g rfl rfl rfl rfl) rfl ?_
        refine JA_off (i := 61) rfl rfl (by kernel_rfl) (by kernel_rfl) (by kernel_rfl) rfl (wn_g rfl rfl rfl rfl) rfl ?_
        refine JA_off (i := 62) rfl rfl (by kernel_rfl) (by kernel_rfl) (by kernel_rfl) rfl (wn_u rfl rfl rfl) rfl ?_
        refine JA_offL (i := 63) rfl rfl (by kernel_rfl) (by kernel_rfl) (by kernel_rfl) rfl (by repeat (first | exact Pk.nil _ | (refine Pk.pick (by repeat (first | exact Rm.here _ | apply Rm.there)) ?_))) (wn_u rfl rfl rfl) rfl ?_
        refine JA_off (i := 64) rfl rfl (by kernel_rfl) (by kernel_rfl) (by kernel_rfl) rfl (wn_u rfl rfl rfl) rfl ?_
        refine JA_off (i := 65) rfl rfl (by kernel_rfl) (by kernel_rfl) (by kernel_rfl) rfl (wn_u rfl rfl rfl) rfl ?_
        refine JA_off (i := 66) rfl rfl (by kernel_rfl) (by kernel_rfl) (by kernel_rfl) rfl (wn_u rfl rfl rfl) rfl ?_
        refine JA_off (i := 67) rfl rfl (by kernel_rfl) (by kernel_rfl) (by kernel_rfl) rfl (wn_u rfl rfl rfl) rfl ?_
        refine JA_off (i := 68) rfl rfl (by kernel_rfl) (by kernel_rfl) (by kernel_rfl) rfl (wn_u rfl rfl rfl) rfl ?_
        refine JA_offL (i := 69) rfl rfl (by kernel_rfl) (by kernel_rfl) (by kernel_rfl) rfl (by repeat (first | exact Pk.nil _ | (refine Pk.pick (by repeat (first | exact Rm.here _ | apply Rm.there)) ?_))) (wn_u rfl rfl rfl) rfl ?_
        refine JA_off (i := 70) rfl rfl (by kernel_rfl) (by kernel_rfl) (by kernel_rfl) rfl (wn_u rfl rfl rfl) rfl ?_
        refine JA_off (i := 71) rfl rfl (by kernel_rfl) (by kernel_rfl) (by kernel_rfl) rfl (wn_g rfl rfl rfl rfl) rfl ?_
        refine JA_takeP (i := 72) rfl rfl (by kernel_rfl) (by kernel_rfl) (by kernel_rfl) rfl (wn_g rfl rfl rfl rfl) (rp_pickF rfl rfl rfl) rfl ?_
        refine JA_takeP (i := 73) rfl rfl (by kernel_rfl) (by kernel_rfl) (by kernel_rfl) rfl (wn_g rfl rfl rfl rfl) (rp_pickF rfl rfl rfl) rfl ?_
        refine JA_takeP (i := 74) rfl rfl (by kernel_rfl) (by kernel_rfl) (by kernel_rfl) rfl (wn0 rfl) (rp_pickT rfl rfl rfl) rfl ?_
        refine JA_done (by kernel_rfl) ?_
        refine JQ_then_n ?_
        refine J_no rfl rfl ?_
        refine J_skip ?_
        refine JQ_then_n ?_
        refine J_keep (l' := [(0, _), (1, _), (7, _), (16, _), (17, _), (18, _), (19, _), (20, _), (21, _)]) ⟨rfl, rfl, rfl, rfl, rfl, rfl, rfl, rfl, rfl, trivial⟩ ?_
        refine J_draw [2, 6, 10, 13] (by kernel_rfl) ?_
        refine JA_takeP (i := 0) rfl rfl (by kernel_rfl) (by kernel_rfl) (by kernel_rfl) rfl (wn0 rfl) (rp_move rfl rfl) rfl ?_
        refine JA_takeP (i := 1) rfl rfl (by kernel_rfl) (by kernel_rfl) (by kernel_rfl) rfl (wn0 rfl) (rp_fieldC (off' := 2) rfl rfl fa_58_2 rfl) rfl ?_
        refine JA_takeL (i := 2) rfl rfl (by kernel_rfl) (by kernel_rfl) (by kernel_rfl) rfl rfl (by repeat (first | exact Pk.nil _ | (refine Pk.pick (by repeat (first | exact Rm.here _ | apply Rm.there)) ?_))) (wn0 rfl) (rv_cell rfl rfl ag_3 (by repeat (first | exact List.Mem.head _ | apply List.Mem.tail)) (by rfl)) rfl ?_
        refine JA_takeP (i := 3) rfl rfl (by kernel_rfl) (by kernel_rfl) (by kernel_rfl) rfl (wn0 rfl) (rp2 rfl rfl (fun ρ hx hy w => ex_add rfl hx hy (by omega))) rfl ?_
        refine JA_takeP (i := 4) rfl rfl (by kernel_rfl) (by kernel_rfl) (by kernel_rfl) rfl (wn0 rfl) (rp_move rfl rfl) rfl ?_
        refine JA_takeP (i := 5) rfl rfl (by kernel_rfl) (by kernel_rfl) (by kernel_rfl) rfl (wn0 rfl) (rp_fieldC (off' := 3) rfl rfl fa_58_3 rfl) rfl ?_
        refine JA_takeL (i := 6) rfl rfl (by kernel_rfl) (by kernel_rfl) (by kernel_rfl) rfl rfl (by repeat (first | exact Pk.nil _ | (refine Pk.pick (by repeat (first | exact Rm.here _ | apply Rm.there)) ?_))) (wn0 rfl) (rv_cell rfl rfl ag_3 (by repeat (first | exact List.Mem.head _ | apply List.Mem.tail)) (by rfl)) rfl ?_
        refine JA_takeP (i := 7) rfl rfl (by kernel_rfl) (by kernel_rfl) (by kernel_rfl) rfl (wn0 rfl) (rp2 rfl rfl (fun ρ hx hy w => ex_add rfl hx hy (by omega))) rfl ?_
        refine JA_takeP (i := 8) rfl rfl (by kernel_rfl) (by kernel_rfl) (by kernel_rfl) rfl (wn0 rfl) (rp_move rfl rfl) rfl ?_
        refine JA_takeP (i := 9) rfl rfl (by kernel_rfl) (by kernel_rfl) (by kernel_rfl) rfl (wn0 rfl) (rp_fieldC (off' := 4) rfl rfl fa_58_4 rfl) rfl ?_
        refine JA_takeL (i := 10) rfl rfl (by kernel_rfl) (by kernel_rfl) (by kernel_rfl) rfl rfl (by repeat (first | exact Pk.nil _ | (refine Pk.pick (by repeat (first | exact Rm.here _ | apply Rm.there)) ?_))) (wn0 rfl) (rv_cell rfl rfl ag_3 (by repeat (first | exact List.Mem.head _ | apply List.Mem.tail)) (by rfl)) rfl ?_
        refine JA_takeP (i := 11) rfl rfl (by kernel_rfl) (by kernel_rfl) (by kernel_rfl) rfl (wn0 rfl) (rp2 rfl rfl (fun ρ hx hy w => ex_add rfl hx hy (by omega))) rfl ?_
        refine JA_takeP (i := 12) rfl rfl (by kernel_rfl) (by kernel_rfl) (by kernel_rfl) rfl (wn0 rfl) (rp_fieldC (off' := 5) rfl rfl fa_58_5 rfl) rfl ?_
        refine JA_takeL (i := 13) rfl rfl (by kernel_rfl) (by kernel_rfl) (by kernel_rfl) rfl rfl (by repeat (first | exact Pk.nil _ | (refine Pk.pick (by repeat (first | exact Rm.here _ | apply Rm.there)) ?_))) (wn0 rfl) (rv_cell rfl rfl ag_3 (by repeat (first | exact List.Mem.head _ | apply List.Mem.tail)) (by rfl)) rfl ?_
        refine JA_takeP (i := 14) rfl rfl (by kernel_rfl) (by kernel_rfl) (by kernel_rfl) rfl (wn0 rfl) (rp2 rfl rfl (fun ρ hx hy w => ex_sub rfl hx hy (by omega))) rfl ?_
        refine JA_takeP (i := 15) rfl rfl (by kernel_rfl) (by kernel_rfl) (by kernel_rfl) rfl (wn0 rfl) (rp_assign rfl rfl) rfl ?_
        refine JA_takeP (i := 16) rfl rfl (by kernel_rfl) (by kernel_rfl) (by kernel_rfl) rfl (wn0 rfl) (rp_assign rfl rfl) rfl ?_
        refine JA_takeP (i := 17) rfl rfl (by kernel_rfl) (by kernel_rfl) (by kernel_rfl) rfl (wn0 rfl) (rp_assign rfl rfl) rfl ?_
        refine JA_done (by kernel_rfl) ?_
        refine JQ_block_n ?_
        refine JQ_then_n ?_
        refine J_keep (l' := [(0, _), (1, _), (7, _), (16, _), (17, _), (18, _), (19, _), (20, _)]) ⟨rfl, rfl, rfl, rfl, rfl, rfl, rfl, rfl, trivial⟩ ?_
        refine J_reg ?_
        refine JM rfl rfl rfl rfl rfl ?_
        refine JL_val rfl (wn0 rfl) (RP.rv (rp2 rfl rfl (fun ρ hx hy w => ex_add rfl hx hy (by omega)))) rfl ?_
        refine JN rfl rfl rfl rfl rfl ?_
        refine JL_nil ?_
        have e1 : sumG (·.games) tb (i + 1) = sumG (·.games) tb i + r.games := by rw [sumG_succ _ tb i hlt, hr]
        have e2 : sumG (·.wins) tb (i + 1) = sumG (·.wins) tb i + r.wins := by rw [sumG_succ _ tb i hlt, hr]
        have e3 : sumG (fun r => r.fr - r.ag) tb (i + 1) = sumG (fun r => r.fr - r.ag) tb i + r.fr - r.ag := by rw [sumG_succ _ tb i hlt, hr]; omega
        have e4 : tms tb (i + 1) = r.team :: tms tb i := by rw [tms_succ tb i hlt, hr]
        exact JQ_round (i + 1) ⟨by omega, by rw [e1]; omega, by rw [e2]; omega, by rw [e3]; omega⟩ (by omega) ⟨rfl, rfl, rfl, rfl, (by rw [e1]; rfl), (by rw [e2]; rfl), (by rw [e3]; rfl), (congrArg some (by go_num)), trivial⟩ (by (try dsimp only); rw [e4]; repeat (first | exact Pk.nil _ | (refine Pk.pick (by repeat (first | exact Rm.here _ | apply Rm.there)) ?_)))
      ·refine JA_takeP (i := 33) rfl rfl (by kernel_rfl) (by kernel_rfl) (by kernel_rfl) rfl (wn_g rfl rfl rfl rfl) (rp_move rfl rfl) rfl ?_
       refine JA_off (i := 34) rfl rfl (by kernel_rfl) (by kernel_rfl) (by kernel_rfl) rfl (wn_g rfl rfl rfl rfl) rfl ?_
       refine JA_offL (i := 35) rfl rfl (by kernel_rfl) (by kernel_rfl) (by kernel_rfl) rfl (by repeat (first | exact Pk.nil _ | (refine Pk.pick (by repeat (first | exact Rm.here _ | apply Rm.there)) ?_))) (wn_g rfl rfl rfl rfl) rfl ?_
       refine JA_off (i := 36) rfl rfl (by kernel_rfl) (by kernel_rfl) (by kernel_rfl) rfl (wn_g rfl rfl rfl rfl) rfl ?_
       refine JA_off (i := 37) rfl rfl (by kernel_rfl) (by kernel_rfl) (by kernel_rfl) rfl (wn_g rfl rfl rfl rfl) rfl ?_
       refine JA_off (i := 38) rfl rfl (by kernel_rfl) (by kernel_rfl) (by kernel_rfl) rfl (wn_g rfl rfl rfl rfl) rfl ?_
       refine JA_takeP (i := 39) rfl rfl (by kernel_rfl) (by kernel_rfl) (by kernel_rfl) rfl (wn_g rfl rfl rfl rfl) (rp_pickF rfl rfl rfl) rfl ?_
       refine JA_takeP (i := 40) rfl rfl (by kernel_rfl) (by kernel_rfl) (by kernel_rfl) rfl (wn_g rfl rfl rfl rfl) (rp_pickF rfl rfl rfl) rfl ?_
       refine JA_takeP (i := 41) rfl rfl (by kernel_rfl) (by kernel_rfl) (by kernel_rfl) rfl (wn_g rfl rfl rfl rfl) (rp_move rfl rfl) rfl ?_
       refine JA_takeP (i := 42) rfl rfl (by kernel_rfl) (by kernel_rfl) (by kernel_rfl) rfl (wn_g rfl rfl rfl rfl) (rp_fieldC (off' := 1) rfl rfl fa_58_1 rfl) rfl ?_
       refine JA_takeL (i := 43) rfl rfl (by kernel_rfl) (by kernel_rfl) (by kernel_rfl) rfl rfl (by repeat (first | exact Pk.nil _ | (refine Pk.pick (by repeat (first | exact Rm.here _ | apply Rm.there)) ?_))) (wn_g rfl rfl rfl rfl) (rv_cell rfl rfl ag_3 (by repeat (first | exact List.Mem.head _ | apply List.Mem.tail)) (by rfl)) rfl ?_
       refine JA_takeP (i := 44) rfl rfl (by kernel_rfl) (by kernel_rfl) (by kernel_rfl) rfl (wn_g rfl rfl rfl rfl) (rp_move rfl rfl) rfl ?_
       refine JA_takeP (i := 45) rfl rfl (by kernel_rfl) (by kernel_rfl) (by kernel_rfl) rfl (wn_g rfl rfl rfl rfl) (rp_move rfl rfl) rfl ?_
       refine JA_takeP (i := 46) rfl rfl (by kernel_rfl) (by kernel_rfl) (by kernel_rfl) rfl (wn_g rfl rfl rfl rfl) (rp2 rfl rfl (fun ρ hx hy w => ex_sub rfl hx hy (by omega))) rfl ?_
       refine JA_takeP (i := 47) rfl rfl (by kernel_rfl) (by kernel_rfl) (by kernel_rfl) rfl (wn_g rfl rfl rfl rfl) (rp2 rfl rfl (fun ρ hx hy w => ex_indexI (k := i - 1) rfl hx hy (by omega) Try.underlying45 sz_58 (by omega))) rfl ?_
       refine JA_takeP (i := 48) rfl rfl (by kernel_rfl) (by kernel_rfl) (by kernel_rfl) rfl (wn_g rfl rfl rfl rfl) (rp_fieldE (i' := 1) rfl rfl fa_58_1 rfl) rfl ?_
       refine JA_takeL (i := 49) rfl rfl (by kernel_rfl) (by kernel_rfl) (by kernel_rfl) rfl rfl (by repeat (first | exact Pk.nil _ | (refine Pk.pick (by repeat (first | exact Rm.here _ | apply Rm.there)) ?_))) (wn_g rfl rfl rfl rfl) (rv_ownE (k := 8) (j := i - 1) EW rfl rfl ag_3 (by repeat (first | exact List.Mem.head _ | apply List.Mem.tail)) (by omega) (by omega) (by rw [hr']; rfl)) rfl ?_
       refine JA_takeP (i := 50) rfl rfl (by kernel_rfl) (by kernel_rfl) (by kernel_rfl) rfl (wn_g rfl rfl rfl rfl) (rp2 rfl rfl (fun ρ hx hy w => ex_eqlD rfl hx hy)) rfl ?_
       refine JA_dec (fun h217 => ?_) (fun h217 => ?_)
       ·refine JA_takeP (i := 51) rfl rfl (by kernel_rfl) (by kernel_rfl) (by kernel_rfl) rfl (wn_g rfl rfl rfl rfl) (rp_move rfl rfl) rfl ?_
        refine JA_takeP (i := 52) rfl rfl (by kernel_rfl) (by kernel_rfl) (by kernel_rfl) rfl (wn_g rfl rfl rfl rfl) (rp_fieldC (off' := 3) rfl rfl fa_58_3 rfl) rfl ?_
        refine JA_takeL (i := 53) rfl rfl (by kernel_rfl) (by kernel_rfl) (by kernel_rfl) rfl rfl (by repeat (first | exact Pk.nil _ | (refine Pk.pick (by repeat (first | exact Rm.here _ | apply Rm.there)) ?_))) (wn_g rfl rfl rfl rfl) (rv_cell rfl rfl ag_3 (by repeat (first | exact List.Mem.head _ | apply List.Mem.tail)) (by rfl)) rfl ?_
        refine JA_takeP (i := 54) rfl rfl (by kernel_rfl) (by kernel_rfl) (by kernel_rfl) rfl (wn_g rfl rfl rfl rfl) (rp_move rfl rfl) rfl ?_
        refine JA_takeP (i := 55) rfl rfl (by kernel_rfl) (by kernel_rfl) (by kernel_rfl) rfl (wn_g rfl rfl rfl rfl) (rp_move rfl rfl) rfl ?_
        refine JA_takeP (i := 56) rfl rfl (by kernel_rfl) (by kernel_rfl) (by kernel_rfl) rfl (wn_g rfl rfl rfl rfl) (rp2 rfl rfl (fun ρ hx hy w => ex_sub rfl hx hy (by omega))) rfl ?_
        refine JA_takeP (i := 57) rfl rfl (by kernel_rfl) (by kernel_rfl) (by kernel_rfl) rfl (wn_g rfl rfl rfl rfl) (rp2 rfl rfl (fun ρ hx hy w => ex_indexI (k := i - 1) rfl hx hy (by omega) Try.underlying45 sz_58 (by omega))) rfl ?_
        refine JA_takeP (i := 58) rfl rfl (by kernel_rfl) (by kernel_rfl) (by kernel_rfl) rfl (wn_g rfl rfl rfl rfl) (rp_fieldE (i' := 3) rfl rfl fa_58_3 rfl) rfl ?_
        refine JA_takeL (i := 59) rfl rfl (by kernel_rfl) (by kernel_rfl) (by kernel_rfl) rfl rfl (by repeat (first | exact Pk.nil _ | (refine Pk.pick (by repeat (first | exact Rm.here _ | apply Rm.there)) ?_))) (wn_g rfl rfl rfl rfl) (rv_ownE (k := 8) (j := i - 1) EW rfl rfl ag_3 (by repeat (first | exact List.Mem.head _ | apply List.Mem.tail)) (by omega) (by omega) (by rw [hr']; rfl)) rfl ?_
        refine JA_takeP (i := 60) rfl rfl (by kernel_rfl) (by kernel_rfl) (by kernel_rfl) rfl (wn_g rfl rfl rfl rfl) (rp2 rfl rfl (fun ρ hx hy w => ex_neqD rfl hx hy)) rfl ?_
        refine JA_decF (by have := n4 (by omega); omega) ?_
        refine JA_takeP (i := 61) rfl rfl (by kernel_rfl) (by kernel_rfl) (by kernel_rfl) rfl (wn_g rfl rfl rfl rfl) (rp_move rfl rfl) rfl ?_
        refine JA_takeP (i := 62) rfl rfl (by kernel_rfl) (by kernel_rfl) (by kernel_rfl) rfl (wn_g rfl rfl rfl rfl) (rp_fieldC (off' := 0) rfl rfl fa_58_0 rfl) rfl ?_
        refine JA_takeL (i := 63) rfl rfl (by kernel_rfl) (by kernel_rfl) (by kernel_rfl) rfl rfl (by repeat (first | exact Pk.nil _ | (refine Pk.pick (by repeat (first | exact Rm.here _ | apply Rm.there)) ?_))) (wn_g rfl rfl rfl rfl) (rv_cell rfl rfl ag_3 (by repeat (first | exact List.Mem.head _ | apply List.Mem.tail)) (by rfl)) rfl ?_
        refine JA_takeP (i := 64) rfl rfl (by kernel_rfl) (by kernel_rfl) (by kernel_rfl) rfl (wn_g rfl rfl rfl rfl) (rp_move rfl rfl) rfl ?_
        refine JA_takeP (i := 65) rfl rfl (by kernel_rfl) (by kernel_rfl) (by kernel_rfl) rfl (wn_g rfl rfl rfl rfl) (rp_move rfl rfl) rfl ?_
        refine JA_takeP (i := 66) rfl rfl (by kernel_rfl) (by kernel_rfl) (by kernel_rfl) rfl (wn_g rfl rfl rfl rfl) (rp2 rfl rfl (fun ρ hx hy w => ex_sub rfl hx hy (by omega))) rfl ?_
        refine JA_takeP (i := 67) rfl rfl (by kernel_rfl) (by kernel_rfl) (by kernel_rfl) rfl (wn_g rfl rfl rfl rfl) (rp2 rfl rfl (fun ρ hx hy w => ex_indexI (k := i - 1) rfl hx hy (by omega) Try.underlying45 sz_58 (by omega))) rfl ?_
        refine JA_takeP (i := 68) rfl rfl (by kernel_rfl) (by kernel_rfl) (by kernel_rfl) rfl (wn_g rfl rfl rfl rfl) (rp_fieldE (i' := 0) rfl rfl fa_58_0 rfl) rfl ?_
        refine JA_takeL (i := 69) rfl rfl (by kernel_rfl) (by kernel_rfl) (by kernel_rfl) rfl rfl (by repeat (first | exact Pk.nil _ | (refine Pk.pick (by repeat (first | exact Rm.here _ | apply Rm.there)) ?_))) (wn_g rfl rfl rfl rfl) (rv_ownE (k := 8) (j := i - 1) EW rfl rfl ag_3 (by repeat (first | exact List.Mem.head _ | apply List.Mem.tail)) (by omega) (by omega) (by rw [hr']; rfl)) rfl ?_
        refine JA_takeP (i := 70) rfl rfl (by kernel_rfl) (by kernel_rfl) (by kernel_rfl) rfl (wn_g rfl rfl rfl rfl) (rp2 rfl rfl (fun ρ hx hy w => ex_lssD rfl hx hy)) rfl ?_
        refine JA_decF (by have := n4 (by omega); omega) ?_
        refine JA_takeP (i := 71) rfl rfl (by kernel_rfl) (by kernel_rfl) (by kernel_rfl) rfl (wn_g rfl rfl rfl rfl) (rp_pickF rfl rfl rfl) rfl ?_
        refine JA_takeP (i := 72) rfl rfl (by kernel_rfl) (by kernel_rfl) (by kernel_rfl) rfl (wn_g rfl rfl rfl rfl) (rp_pickT rfl rfl rfl) rfl ?_
        refine JA_takeP (i := 73) rfl rfl (by kernel_rfl) (by kernel_rfl) (by kernel_rfl) rfl (wn_g rfl rfl rfl rfl) (rp_pickF rfl rfl rfl) rfl ?_
        refine JA_takeP (i := 74) rfl rfl (by kernel_rfl) (by kernel_rfl) (by kernel_rfl) rfl (wn0 rfl) (rp_pickT rfl rfl rfl) rfl ?_
        refine JA_done (by kernel_rfl) ?_
        refine JQ_then_n ?_
        refine J_no rfl rfl ?_
        refine J_skip ?_
        refine JQ_then_n ?_
        refine J_keep (l' := [(0, _), (1, _), (7, _), (16, _), (17, _), (18, _), (19, _), (20, _), (21, _)]) ⟨rfl, rfl, rfl, rfl, rfl, rfl, rfl, rfl, rfl, trivial⟩ ?_
        refine J_draw [2, 6, 10, 13] (by kernel_rfl) ?_
        refine JA_takeP (i := 0) rfl rfl (by kernel_rfl) (by kernel_rfl) (by kernel_rfl) rfl (wn0 rfl) (rp_move rfl rfl) rfl ?_
        refine JA_takeP (i := 1) rfl rfl (by kernel_rfl) (by kernel_rfl) (by kernel_rfl) rfl (wn0 rfl) (rp_fieldC (off' := 2) rfl rfl fa_58_2 rfl) rfl ?_
        refine JA_takeL (i := 2) rfl rfl (by kernel_rfl) (by kernel_rfl) (by kernel_rfl) rfl rfl (by repeat (first | exact Pk.nil _ | (refine Pk.pick (by repeat (first | exact Rm.here _ | apply Rm.there)) ?_))) (wn0 rfl) (rv_cell rfl rfl ag_3 (by repeat (first | exact List.Mem.head _ | apply List.Mem.tail)) (by rfl)) rfl ?_
        refine JA_takeP (i := 3) rfl rfl (by kernel_rfl) (by kernel_rfl) (by kernel_rfl) rfl (wn0 rfl) (rp2 rfl rfl (fun ρ hx hy w => ex_add rfl hx hy (by omega))) rfl ?_
        refine JA_takeP (i := 4) rfl rfl (by kernel_rfl) (by kernel_rfl) (by kernel_rfl) rfl (wn0 rfl) (rp_move rfl rfl) rfl ?_
        refine JA_takeP (i := 5) rfl rfl (by kernel_rfl) (by kernel_rfl) (by kernel_rfl) rfl (wn0 rfl) (rp_fieldC (off' := 3) rfl rfl fa_58_3 rfl) rfl ?_
        refine JA_takeL (i := 6) rfl rfl (by kernel_rfl) (by kernel_rfl) (by kernel_rfl) rfl rfl (by repeat (first | exact Pk.nil _ | (refine Pk.pick (by repeat (first | exact Rm.here _ | apply Rm.there)) ?_))) (wn0 rfl) (rv_cell rfl rfl ag_3 (by repeat (first | exact List.Mem.head _ | apply List.Mem.tail)) (by rfl)) rfl ?_
        refine JA_takeP (i := 7) rfl rfl (by kernel_rfl) (by kernel_rfl) (by kernel_rfl) rfl (wn0 rfl) (rp2 rfl rfl (fun ρ hx hy w => ex_add rfl hx hy (by omega))) rfl ?_
        refine JA_takeP (i := 8) rfl rfl (by kernel_rfl) (by kernel_rfl) (by kernel_rfl) rfl (wn0 rfl) (rp_move rfl rfl) rfl ?_
        refine JA_takeP (i := 9) rfl rfl (by kernel_rfl) (by kernel_rfl) (by kernel_rfl) rfl (wn0 rfl) (rp_fieldC (off' := 4) rfl rfl fa_58_4 rfl) rfl ?_
        refine JA_takeL (i := 10) rfl rfl (by kernel_rfl) (by kernel_rfl) (by kernel_rfl) rfl rfl (by repeat (first | exact Pk.nil _ | (refine Pk.pick (by repeat (first | exact Rm.here _ | apply Rm.there)) ?_))) (wn0 rfl) (rv_cell rfl rfl ag_3 (by repeat (first | exact List.Mem.head _ | apply List.Mem.tail)) (by rfl)) rfl ?_
        refine JA_takeP (i := 11) rfl rfl (by kernel_rfl) (by kernel_rfl) (by kernel_rfl) rfl (wn0 rfl) (rp2 rfl rfl (fun ρ hx hy w => ex_add rfl hx hy (by omega))) rfl ?_
        refine JA_takeP (i := 12) rfl rfl (by kernel_rfl) (by kernel_rfl) (by kernel_rfl) rfl (wn0 rfl) (rp_fieldC (off' := 5) rfl rfl fa_58_5 rfl) rfl ?_
        refine JA_takeL (i := 13) rfl rfl (by kernel_rfl) (by kernel_rfl) (by kernel_rfl) rfl rfl (by repeat (first | exact Pk.nil _ | (refine Pk.pick (by repeat (first | exact Rm.here _ | apply Rm.there)) ?_))) (wn0 rfl) (rv_cell rfl rfl ag_3 (by repeat (first | exact List.Mem.head _ | apply List.Mem.tail)) (by rfl)) rfl ?_
        refine JA_takeP (i := 14) rfl rfl (by kernel_rfl) (by kernel_rfl) (by kernel_rfl) rfl (wn0 rfl) (rp2 rfl rfl (fun ρ hx hy w => ex_sub rfl hx hy (by omega))) rfl ?_
        refine JA_takeP (i := 15) rfl rfl (by kernel_rfl) (by kernel_rfl) (by kernel_rfl) rfl (wn0 rfl) (rp_assign rfl rfl) rfl ?_
        refine JA_takeP (i := 16) rfl rfl (by kernel_rfl) (by kernel_rfl) (by kernel_rfl) rfl (wn0 rfl) (rp_assign rfl rfl) rfl ?_
        refine JA_takeP (i := 17) rfl rfl (by kernel_rfl) (by kernel_rfl) (by kernel_rfl) rfl (wn0 rfl) (rp_assign rfl rfl) rfl ?_
        refine JA_done (by kernel_rfl) ?_
        refine JQ_block_n ?_
        refine JQ_then_n ?_
        refine J_keep (l' := [(0, _), (1, _), (7, _), (16, _), (17, _), (18, _), (19, _), (20, _)]) ⟨rfl, rfl, rfl, rfl, rfl, rfl, rfl, rfl, trivial⟩ ?_
        refine J_reg ?_
        refine JM rfl rfl rfl rfl rfl ?_
        refine JL_val rfl (wn0 rfl) (RP.rv (rp2 rfl rfl (fun ρ hx hy w => ex_add rfl hx hy (by omega)))) rfl ?_
        refine JN rfl rfl rfl rfl rfl ?_
        refine JL_nil ?_
        have e1 : sumG (·.games) tb (i + 1) = sumG (·.games) tb i + r.games := by rw [sumG_succ _ tb i hlt, hr]
        have e2 : sumG (·.wins) tb (i + 1) = sumG (·.wins) tb i + r.wins := by rw [sumG_succ _ tb i hlt, hr]
        have e3 : sumG (fun r => r.fr - r.ag) tb (i + 1) = sumG (fun r => r.fr - r.ag) tb i + r.fr - r.ag := by rw [sumG_succ _ tb i hlt, hr]; omega
        have e4 : tms tb (i + 1) = r.team :: tms tb i := by rw [tms_succ tb i hlt, hr]
        exact JQ_round (i + 1) ⟨by omega, by rw [e1]; omega, by rw [e2]; omega, by rw [e3]; omega⟩ (by omega) ⟨rfl, rfl, rfl, rfl, (by rw [e1]; rfl), (by rw [e2]; rfl), (by rw [e3]; rfl), (congrArg some (by go_num)), trivial⟩ (by (try dsimp only); rw [e4]; repeat (first | exact Pk.nil _ | (refine Pk.pick (by repeat (first | exact Rm.here _ | apply Rm.there)) ?_)))
       ·refine JA_takeP (i := 51) rfl rfl (by kernel_rfl) (by kernel_rfl) (by kernel_rfl) rfl (wn_g rfl rfl rfl rfl) (rp_move rfl rfl) rfl ?_
        refine JA_off (i := 52) rfl rfl (by kernel_rfl) (by kernel_rfl) (by kernel_rfl) rfl (wn_g rfl rfl rfl rfl) rfl ?_
        refine JA_offL (i := 53) rfl rfl (by kernel_rfl) (by kernel_rfl) (by kernel_rfl) rfl (by repeat (first | exact Pk.nil _ | (refine Pk.pick (by repeat (first | exact Rm.here _ | apply Rm.there)) ?_))) (wn_g rfl rfl rfl rfl) rfl ?_
        refine JA_off (i := 54) rfl rfl (by kernel_rfl) (by kernel_rfl) (by kernel_rfl) rfl (wn_g rfl rfl rfl rfl) rfl ?_
        refine JA_off (i := 55) rfl rfl (by kernel_rfl) (by kernel_rfl) (by kernel_rfl) rfl (wn_g rfl rfl rfl rfl) rfl ?_
        refine JA_off (i := 56) rfl rfl (by kernel_rfl) (by kernel_rfl) (by kernel_rfl) rfl (wn_g rfl rfl rfl rfl) rfl ?_
        refine JA_off (i := 57) rfl rfl (by kernel_rfl) (by kernel_rfl) (by kernel_rfl) rfl (wn_g rfl rfl rfl rfl) rfl ?_
        refine JA_off (i := 58) rfl rfl (by kernel_rfl) (by kernel_rfl) (by kernel_rfl) rfl (wn_g rfl rfl rfl rfl) rfl ?_
        refine JA_offL (i := 59) rfl rfl (by kernel_rfl) (by kernel_rfl) (by kernel_rfl) rfl (by repeat (first | exact Pk.nil _ | (refine Pk.pick (by repeat (first | exact Rm.here _ | apply Rm.there)) ?_))) (wn_g rfl rfl rfl rfl) rfl ?_
        refine JA_off (i := 60) rfl rfl (by kernel_rfl) (by kernel_rfl) (by kernel_rfl) rfl (wn_g rfl rfl rfl rfl) rfl ?_
        refine JA_off (i := 61) rfl rfl (by kernel_rfl) (by kernel_rfl) (by kernel_rfl) rfl (wn_g rfl rfl rfl rfl) rfl ?_
        refine JA_off (i := 62) rfl rfl (by kernel_rfl) (by kernel_rfl) (by kernel_rfl) rfl (wn_u rfl rfl rfl) rfl ?_
        refine JA_offL (i := 63) rfl rfl (by kernel_rfl) (by kernel_rfl) (by kernel_rfl) rfl (by repeat (first | exact Pk.nil _ | (refine Pk.pick (by repeat (first | exact Rm.here _ | apply Rm.there)) ?_))) (wn_u rfl rfl rfl) rfl ?_
        refine JA_off (i := 64) rfl rfl (by kernel_rfl) (by kernel_rfl) (by kernel_rfl) rfl (wn_u rfl rfl rfl) rfl ?_
        refine JA_off (i := 65) rfl rfl (by kernel_rfl) (by kernel_rfl) (by kernel_rfl) rfl (wn_u rfl rfl rfl) rfl ?_
        refine JA_off (i := 66) rfl rfl (by kernel_rfl) (by kernel_rfl) (by kernel_rfl) rfl (wn_u rfl rfl rfl) rfl ?_
        refine JA_off (i := 67) rfl rfl (by kernel_rfl) (by kernel_rfl) (by kernel_rfl) rfl (wn_u rfl rfl rfl) rfl ?_
        refine JA_off (i := 68) rfl rfl (by kernel_rfl) (by kernel_rfl) (by kernel_rfl) rfl (wn_u rfl rfl rfl) rfl ?_
        refine JA_offL (i := 69) rfl rfl (by kernel_rfl) (by kernel_rfl) (by kernel_rfl) rfl (by repeat (first | exact Pk.nil _ | (refine Pk.pick (by repeat (first | exact Rm.here _ | apply Rm.there)) ?_))) (wn_u rfl rfl rfl) rfl ?_
        refine JA_off (i := 70) rfl rfl (by kernel_rfl) (by kernel_rfl) (by kernel_rfl) rfl (wn_u rfl rfl rfl) rfl ?_
        refine JA_off (i := 71) rfl rfl (by kernel_rfl) (by kernel_rfl) (by kernel_rfl) rfl (wn_g rfl rfl rfl rfl) rfl ?_
        refine JA_takeP (i := 72) rfl rfl (by kernel_rfl) (by kernel_rfl) (by kernel_rfl) rfl (wn_g rfl rfl rfl rfl) (rp_pickF rfl rfl rfl) rfl ?_
        refine JA_takeP (i := 73) rfl rfl (by kernel_rfl) (by kernel_rfl) (by kernel_rfl) rfl (wn_g rfl rfl rfl rfl) (rp_pickF rfl rfl rfl) rfl ?_
        refine JA_takeP (i := 74) rfl rfl (by kernel_rfl) (by kernel_rfl) (by kernel_rfl) rfl (wn0 rfl) (rp_pickT rfl rfl rfl) rfl ?_
        refine JA_done (by kernel_rfl) ?_
        refine JQ_then_n ?_
        refine J_no rfl rfl ?_
        refine J_skip ?_
        refine JQ_then_n ?_
        refine J_keep (l' := [(0, _), (1, _), (7, _), (16, _), (17, _), (18, _), (19, _), (20, _), (21, _)]) ⟨rfl, rfl, rfl, rfl, rfl, rfl, rfl, rfl, rfl, trivial⟩ ?_
        refine J_draw [2, 6, 10, 13] (by kernel_rfl) ?_
        refine JA_takeP (i := 0) rfl rfl (by kernel_rfl) (by kernel_rfl) (by kernel_rfl) rfl (wn0 rfl) (rp_move rfl rfl) rfl ?_
        refine JA_takeP (i := 1) rfl rfl (by kernel_rfl) (by kernel_rfl) (by kernel_rfl) rfl (wn0 rfl) (rp_fieldC (off' := 2) rfl rfl fa_58_2 rfl) rfl ?_
        refine JA_takeL (i := 2) rfl rfl (by kernel_rfl) (by kernel_rfl) (by kernel_rfl) rfl rfl (by repeat (first | exact Pk.nil _ | (refine Pk.pick (by repeat (first | exact Rm.here _ | apply Rm.there)) ?_))) (wn0 rfl) (rv_cell rfl rfl ag_3 (by repeat (first | exact List.Mem.head _ | apply List.Mem.tail)) (by rfl)) rfl ?_
        refine JA_takeP (i := 3) rfl rfl (by kernel_rfl) (by kernel_rfl) (by kernel_rfl) rfl (wn0 rfl) (rp2 rfl rfl (fun ρ hx hy w => ex_add rfl hx hy (by omega))) rfl ?_
        refine JA_takeP (i := 4) rfl rfl (by kernel_rfl) (by kernel_rfl) (by kernel_rfl) rfl (wn0 rfl) (rp_move rfl rfl) rfl ?_
        refine JA_takeP (i := 5) rfl rfl (by kernel_rfl) (by kernel_rfl) (by kernel_rfl) rfl (wn0 rfl) (rp_fieldC (off' := 3) rfl rfl fa_58_3 rfl) rfl ?_
        refine JA_takeL (i := 6) rfl rfl (by kernel_rfl) (by kernel_rfl) (by kernel_rfl) rfl rfl (by repeat (first | exact Pk.nil _ | (refine Pk.pick (by repeat (first | exact Rm.here _ | apply Rm.there)) ?_))) (wn0 rfl) (rv_cell rfl rfl ag_3 (by repeat (first | exact List.Mem.head _ | apply List.Mem.tail)) (by rfl)) rfl ?_
        refine JA_takeP (i := 7) rfl rfl (by kernel_rfl) (by kernel_rfl) (by kernel_rfl) rfl (wn0 rfl) (rp2 rfl rfl (fun ρ hx hy w => ex_add rfl hx hy (by omega))) rfl ?_
        refine JA_takeP (i := 8) rfl rfl (by kernel_rfl) (by kernel_rfl) (by kernel_rfl) rfl (wn0 rfl) (rp_move rfl rfl) rfl ?_
        refine JA_takeP (i := 9) rfl rfl (by kernel_rfl) (by kernel_rfl) (by kernel_rfl) rfl (wn0 rfl) (rp_fieldC (off' := 4) rfl rfl fa_58_4 rfl) rfl ?_
        refine JA_takeL (i := 10) rfl rfl (by kernel_rfl) (by kernel_rfl) (by kernel_rfl) rfl rfl (by repeat (first | exact Pk.nil _ | (refine Pk.pick (by repeat (first | exact Rm.here _ | apply Rm.there)) ?_))) (wn0 rfl) (rv_cell rfl rfl ag_3 (by repeat (first | exact List.Mem.head _ | apply List.Mem.tail)) (by rfl)) rfl ?_
        refine JA_takeP (i := 11) rfl rfl (by kernel_rfl) (by kernel_rfl) (by kernel_rfl) rfl (wn0 rfl) (rp2 rfl rfl (fun ρ hx hy w => ex_add rfl hx hy (by omega))) rfl ?_
        refine JA_takeP (i := 12) rfl rfl (by kernel_rfl) (by kernel_rfl) (by kernel_rfl) rfl (wn0 rfl) (rp_fieldC (off' := 5) rfl rfl fa_58_5 rfl) rfl ?_
        refine JA_takeL (i := 13) rfl rfl (by kernel_rfl) (by kernel_rfl) (by kernel_rfl) rfl rfl (by repeat (first | exact Pk.nil _ | (refine Pk.pick (by repeat (first | exact Rm.here _ | apply Rm.there)) ?_))) (wn0 rfl) (rv_cell rfl rfl ag_3 (by repeat (first | exact List.Mem.head _ | apply List.Mem.tail)) (by rfl)) rfl ?_
        refine JA_takeP (i := 14) rfl rfl (by kernel_rfl) (by kernel_rfl) (by kernel_rfl) rfl (wn0 rfl) (rp2 rfl rfl (fun ρ hx hy w => ex_sub rfl hx hy (by omega))) rfl ?_
        refine JA_takeP (i := 15) rfl rfl (by kernel_rfl) (by kernel_rfl) (by kernel_rfl) rfl (wn0 rfl) (rp_assign rfl rfl) rfl ?_
        refine JA_takeP (i := 16) rfl rfl (by kernel_rfl) (by kernel_rfl) (by kernel_rfl) rfl (wn0 rfl) (rp_assign rfl rfl) rfl ?_
        refine JA_takeP (i := 17) rfl rfl (by kernel_rfl) (by kernel_rfl) (by kernel_rfl) rfl (wn0 rfl) (rp_assign rfl rfl) rfl ?_
        refine JA_done (by kernel_rfl) ?_
        refine JQ_block_n ?_
        refine JQ_then_n ?_
        refine J_keep (l' := [(0, _), (1, _), (7, _), (16, _), (17, _), (18, _), (19, _), (20, _)]) ⟨rfl, rfl, rfl, rfl, rfl, rfl, rfl, rfl, trivial⟩ ?_
        refine J_reg ?_
        refine JM rfl rfl rfl rfl rfl ?_
        refine JL_val rfl (wn0 rfl) (RP.rv (rp2 rfl rfl (fun ρ hx hy w => ex_add rfl hx hy (by omega)))) rfl ?_
        refine JN rfl rfl rfl rfl rfl ?_
        refine JL_nil ?_
        have e1 : sumG (·.games) tb (i + 1) = sumG (·.games) tb i + r.games := by rw [sumG_succ _ tb i hlt, hr]
        have e2 : sumG (·.wins) tb (i + 1) = sumG (·.wins) tb i + r.wins := by rw [sumG_succ _ tb i hlt, hr]
        have e3 : sumG (fun r => r.fr - r.ag) tb (i + 1) = sumG (fun r => r.fr - r.ag) tb i + r.fr - r.ag := by rw [sumG_succ _ tb i hlt, hr]; omega
        have e4 : tms tb (i + 1) = r.team :: tms tb i := by rw [tms_succ tb i hlt, hr]
        exact JQ_round (i + 1) ⟨by omega, by rw [e1]; omega, by rw [e2]; omega, by rw [e3]; omega⟩ (by omega) ⟨rfl, rfl, rfl, rfl, (by rw [e1]; rfl), (by rw [e2]; rfl), (by rw [e3]; rfl), (congrArg some (by go_num)), trivial⟩ (by (try dsimp only); rw [e4]; repeat (first | exact Pk.nil _ | (refine Pk.pick (by repeat (first | exact Rm.here _ | apply Rm.there)) ?_)))
     ·refine JA_takeP (i := 2) rfl rfl (by kernel_rfl) (by kernel_rfl) (by kernel_rfl) rfl (wn0 rfl) (rp_move rfl rfl) rfl ?_
      refine JA_off (i := 3) rfl rfl (by kernel_rfl) (by kernel_rfl) (by kernel_rfl) rfl (wn_g rfl rfl rfl rfl) rfl ?_
      refine JA_offL (i := 4) rfl rfl (by kernel_rfl) (by kernel_rfl) (by kernel_rfl) rfl (by repeat (first | exact Pk.nil _ | (refine Pk.pick (by repeat (first | exact Rm.here _ | apply Rm.there)) ?_))) (wn_g rfl rfl rfl rfl) rfl ?_
      refine JA_off (i := 5) rfl rfl (by kernel_rfl) (by kernel_rfl) (by kernel_rfl) rfl (wn_g rfl rfl rfl rfl) rfl ?_
      refine JA_off (i := 6) rfl rfl (by kernel_rfl) (by kernel_rfl) (by kernel_rfl) rfl (wn_g rfl rfl rfl rfl) rfl ?_
      refine JA_off (i := 7) rfl rfl (by kernel_rfl) (by kernel_rfl) (by kernel_rfl) rfl (wn_g rfl rfl rfl rfl) rfl ?_
      refine JA_off (i := 8) rfl rfl (by kernel_rfl) (by kernel_rfl) (by kernel_rfl) rfl (wn_g rfl rfl rfl rfl) rfl ?_
      refine JA_off (i := 9) rfl rfl (by kernel_rfl) (by kernel_rfl) (by kernel_rfl) rfl (wn_g rfl rfl rfl rfl) rfl ?_
      refine JA_offL (i := 10) rfl rfl (by kernel_rfl) (by kernel_rfl) (by kernel_rfl) rfl (by repeat (first | exact Pk.nil _ | (refine Pk.pick (by repeat (first | exact Rm.here _ | apply Rm.there)) ?_))) (wn_g rfl rfl rfl rfl) rfl ?_
      refine JA_off (i := 11) rfl rfl (by kernel_rfl) (by kernel_rfl) (by kernel_rfl) rfl (wn_g rfl rfl rfl rfl) rfl ?_
      refine JA_off (i := 12) rfl rfl (by kernel_rfl) (by kernel_rfl) (by kernel_rfl) rfl (wn_g rfl rfl rfl rfl) rfl ?_
      refine JA_off (i := 13) rfl rfl (by kernel_rfl) (by kernel_rfl) (by kernel_rfl) rfl (wn_u rfl rfl rfl) rfl ?_
      refine JA_offL (i := 14) rfl rfl (by kernel_rfl) (by kernel_rfl) (by kernel_rfl) rfl (by repeat (first | exact Pk.nil _ | (refine Pk.pick (by repeat (first | exact Rm.here _ | apply Rm.there)) ?_))) (wn_u rfl rfl rfl) rfl ?_
      refine JA_off (i := 15) rfl rfl (by kernel_rfl) (by kernel_rfl) (by kernel_rfl) rfl (wn_u rfl rfl rfl) rfl ?_
      refine JA_off (i := 16) rfl rfl (by kernel_rfl) (by kernel_rfl) (by kernel_rfl) rfl (wn_u rfl rfl rfl) rfl ?_
      refine JA_off (i := 17) rfl rfl (by kernel_rfl) (by kernel_rfl) (by kernel_rfl) rfl (wn_u rfl rfl rfl) rfl ?_
      refine JA_off (i := 18) rfl rfl (by kernel_rfl) (by kernel_rfl) (by kernel_rfl) rfl (wn_u rfl rfl rfl) rfl ?_
      refine JA_off (i := 19) rfl rfl (by kernel_rfl) (by kernel_rfl) (by kernel_rfl) rfl (wn_u rfl rfl rfl) rfl ?_
      refine JA_offL (i := 20) rfl rfl (by kernel_rfl) (by kernel_rfl) (by kernel_rfl) rfl (by repeat (first | exact Pk.nil _ | (refine Pk.pick (by repeat (first | exact Rm.here _ | apply Rm.there)) ?_))) (wn_u rfl rfl rfl) rfl ?_
      refine JA_off (i := 21) rfl rfl (by kernel_rfl) (by kernel_rfl) (by kernel_rfl) rfl (wn_u rfl rfl rfl) rfl ?_
      refine JA_off (i := 22) rfl rfl (by kernel_rfl) (by kernel_rfl) (by kernel_rfl) rfl (wn_g rfl rfl rfl rfl) rfl ?_
      refine JA_off (i := 23) rfl rfl (by kernel_rfl) (by kernel_rfl) (by kernel_rfl) rfl (wn_g rfl rfl rfl rfl) rfl ?_
      refine JA_off (i := 24) rfl rfl (by kernel_rfl) (by kernel_rfl) (by kernel_rfl) rfl (wn_u rfl rfl rfl) rfl ?_
      refine JA_offL (i := 25) rfl rfl (by kernel_rfl) (by kernel_rfl) (by kernel_rfl) rfl (by repeat (first | exact Pk.nil _ | (refine Pk.pick (by repeat (first | exact Rm.here _ | apply Rm.there)) ?_))) (wn_u rfl rfl rfl) rfl ?_
      refine JA_off (i := 26) rfl rfl (by kernel_rfl) (by kernel_rfl) (by kernel_rfl) rfl (wn_u rfl rfl rfl) rfl ?_
      refine JA_off (i := 27) rfl rfl (by kernel_rfl) (by kernel_rfl) (by kernel_rfl) rfl (wn_u rfl rfl rfl) rfl ?_
      refine JA_off (i := 28) rfl rfl (by kernel_rfl) (by kernel_rfl) (by kernel_rfl) rfl (wn_u rfl rfl rfl) rfl ?_
      refine JA_off (i := 29) rfl rfl (by kernel_rfl) (by kernel_rfl) (by kernel_rfl) rfl (wn_u rfl rfl rfl) rfl ?_
      refine JA_off (i := 30) rfl rfl (by kernel_rfl) (by kernel_rfl) (by kernel_rfl) rfl (wn_u rfl rfl rfl) rfl ?_
      refine JA_offL (i := 31) rfl rfl (by kernel_rfl) (by kernel_rfl) (by kernel_rfl) rfl (by repeat (first | exact Pk.nil _ | (refine Pk.pick (by repeat (first | exact Rm.here _ | apply Rm.there)) ?_))) (wn_u rfl rfl rfl) rfl ?_
      refine JA_off (i := 32) rfl rfl (by kernel_rfl) (by kernel_rfl) (by kernel_rfl) rfl (wn_u rfl rfl rfl) rfl ?_
      refine JA_off (i := 33) rfl rfl (by kernel_rfl) (by kernel_rfl) (by kernel_rfl) rfl (wn_u rfl rfl rfl) rfl ?_
      refine JA_off (i := 34) rfl rfl (by kernel_rfl) (by kernel_rfl) (by kernel_rfl) rfl (wn_u rfl rfl rfl) rfl ?_
      refine JA_offL (i := 35) rfl rfl (by kernel_rfl) (by kernel_rfl) (by kernel_rfl) rfl (by repeat (first | exact Pk.nil _ | (refine Pk.pick (by repeat (first | exact Rm.here _ | apply Rm.there)) ?_))) (wn_u rfl rfl rfl) rfl ?_
      refine JA_off (i := 36) rfl rfl (by kernel_rfl) (by kernel_rfl) (by kernel_rfl) rfl (wn_u rfl rfl rfl) rfl ?_
      refine JA_off (i := 37) rfl rfl (by kernel_rfl) (by kernel_rfl) (by kernel_rfl) rfl (wn_u rfl rfl rfl) rfl ?_
      refine JA_off (i := 38) rfl rfl (by kernel_rfl) (by kernel_rfl) (by kernel_rfl) rfl (wn_u rfl rfl rfl) rfl ?_
      refine JA_off (i := 39) rfl rfl (by kernel_rfl) (by kernel_rfl) (by kernel_rfl) rfl (wn_u rfl rfl rfl) rfl ?_
      refine JA_off (i := 40) rfl rfl (by kernel_rfl) (by kernel_rfl) (by kernel_rfl) rfl (wn_g rfl rfl rfl rfl) rfl ?_
      refine JA_off (i := 41) rfl rfl (by kernel_rfl) (by kernel_rfl) (by kernel_rfl) rfl (wn_g rfl rfl rfl rfl) rfl ?_
      refine JA_off (i := 42) rfl rfl (by kernel_rfl) (by kernel_rfl) (by kernel_rfl) rfl (wn_u rfl rfl rfl) rfl ?_
      refine JA_offL (i := 43) rfl rfl (by kernel_rfl) (by kernel_rfl) (by kernel_rfl) rfl (by repeat (first | exact Pk.nil _ | (refine Pk.pick (by repeat (first | exact Rm.here _ | apply Rm.there)) ?_))) (wn_u rfl rfl rfl) rfl ?_
      refine JA_off (i := 44) rfl rfl (by kernel_rfl) (by kernel_rfl) (by kernel_rfl) rfl (wn_u rfl rfl rfl) rfl ?_
      refine JA_off (i := 45) rfl rfl (by kernel_rfl) (by kernel_rfl) (by kernel_rfl) rfl (wn_u rfl rfl rfl) rfl ?_
      refine JA_off (i := 46) rfl rfl (by kernel_rfl) (by kernel_rfl) (by kernel_rfl) rfl (wn_u rfl rfl rfl) rfl ?_
      refine JA_off (i := 47) rfl rfl (by kernel_rfl) (by kernel_rfl) (by kernel_rfl) rfl (wn_u rfl rfl rfl) rfl ?_
      refine JA_off (i := 48) rfl rfl (by kernel_rfl) (by kernel_rfl) (by kernel_rfl) rfl (wn_u rfl rfl rfl) rfl ?_
      refine JA_offL (i := 49) rfl rfl (by kernel_rfl) (by kernel_rfl) (by kernel_rfl) rfl (by repeat (first | exact Pk.nil _ | (refine Pk.pick (by repeat (first | exact Rm.here _ | apply Rm.there)) ?_))) (wn_u rfl rfl rfl) rfl ?_
      refine JA_off (i := 50) rfl rfl (by kernel_rfl) (by kernel_rfl) (by kernel_rfl) rfl (wn_u rfl rfl rfl) rfl ?_
      refine JA_off (i := 51) rfl rfl (by kernel_rfl) (by kernel_rfl) (by kernel_rfl) rfl (wn_u rfl rfl rfl) rfl ?_
      refine JA_off (i := 52) rfl rfl (by kernel_rfl) (by kernel_rfl) (by kernel_rfl) rfl (wn_u rfl rfl rfl) rfl ?_
      refine JA_offL (i := 53) rfl rfl (by kernel_rfl) (by kernel_rfl) (by kernel_rfl) rfl (by repeat (first | exact Pk.nil _ | (refine Pk.pick (by repeat (first | exact Rm.here _ | apply Rm.there)) ?_))) (wn_u rfl rfl rfl) rfl ?_
      refine JA_off (i := 54) rfl rfl (by kernel_rfl) (by kernel_rfl) (by kernel_rfl) rfl (wn_u rfl rfl rfl) rfl ?_
      refine JA_off (i := 55) rfl rfl (by kernel_rfl) (by kernel_rfl) (by kernel_rfl) rfl (wn_u rfl rfl rfl) rfl ?_
      refine JA_off (i := 56) rfl rfl (by kernel_rfl) (by kernel_rfl) (by kernel_rfl) rfl (wn_u rfl rfl rfl) rfl ?_
      refine JA_off (i := 57) rfl rfl (by kernel_rfl) (by kernel_rfl) (by kernel_rfl) rfl (wn_u rfl rfl rfl) rfl ?_
      refine JA_off (i := 58) rfl rfl (by kernel_rfl) (by kernel_rfl) (by kernel_rfl) rfl (wn_u rfl rfl rfl) rfl ?_
      refine JA_offL (i := 59) rfl rfl (by kernel_rfl) (by kernel_rfl) (by kernel_rfl) rfl (by repeat (first | exact Pk.nil _ | (refine Pk.pick (by repeat (first | exact Rm.here _ | apply Rm.there)) ?_))) (wn_u rfl rfl rfl) rfl ?_
      refine JA_off (i := 60) rfl rfl (by kernel_rfl) (by kernel_rfl) (by kernel_rfl) rfl (wn_u rfl rfl rfl) rfl ?_
      refine JA_off (i := 61) rfl rfl (by kernel_rfl) (by kernel_rfl) (by kernel_rfl) rfl (wn_u rfl rfl rfl) rfl ?_
      refine JA_off (i := 62) rfl rfl (by kernel_rfl) (by kernel_rfl) (by kernel_rfl) rfl (wn_u rfl rfl rfl) rfl ?_
      refine JA_offL (i := 63) rfl rfl (by kernel_rfl) (by kernel_rfl) (by kernel_rfl) rfl (by repeat (first | exact Pk.nil _ | (refine Pk.pick (by repeat (first | exact Rm.here _ | apply Rm.there)) ?_))) (wn_u rfl rfl rfl) rfl ?_
      refine JA_off (i := 64) rfl rfl (by kernel_rfl) (by kernel_rfl) (by kernel_rfl) rfl (wn_u rfl rfl rfl) rfl ?_
      refine JA_off (i := 65) rfl rfl (by kernel_rfl) (by kernel_rfl) (by kernel_rfl) rfl (wn_u rfl rfl rfl) rfl ?_
      refine JA_off (i := 66) rfl rfl (by kernel_rfl) (by kernel_rfl) (by kernel_rfl) rfl (wn_u rfl rfl rfl) rfl ?_
      refine JA_off (i := 67) rfl rfl (by kernel_rfl) (by kernel_rfl) (by kernel_rfl) rfl (wn_u rfl rfl rfl) rfl ?_
      refine JA_off (i := 68) rfl rfl (by kernel_rfl) (by kernel_rfl) (by kernel_rfl) rfl (wn_u rfl rfl rfl) rfl ?_
      refine JA_offL (i := 69) rfl rfl (by kernel_rfl) (by kernel_rfl) (by kernel_rfl) rfl (by repeat (first | exact Pk.nil _ | (refine Pk.pick (by repeat (first | exact Rm.here _ | apply Rm.there)) ?_))) (wn_u rfl rfl rfl) rfl ?_
      refine JA_off (i := 70) rfl rfl (by kernel_rfl) (by kernel_rfl) (by kernel_rfl) rfl (wn_u rfl rfl rfl) rfl ?_
      refine JA_off (i := 71) rfl rfl (by kernel_rfl) (by kernel_rfl) (by kernel_rfl) rfl (wn_u rfl rfl rfl) rfl ?_
      refine JA_off (i := 72) rfl rfl (by kernel_rfl) (by kernel_rfl) (by kernel_rfl) rfl (wn_u rfl rfl rfl) rfl ?_
      refine JA_off (i := 73) rfl rfl (by kernel_rfl) (by kernel_rfl) (by kernel_rfl) rfl (wn_g rfl rfl rfl rfl) rfl ?_
      refine JA_takeP (i := 74) rfl rfl (by kernel_rfl) (by kernel_rfl) (by kernel_rfl) rfl (wn0 rfl) (rp_pickF rfl rfl rfl) rfl ?_
      refine JA_done (by kernel_rfl) ?_
      refine JQ_then_n ?_
      refine J_no rfl rfl ?_
      refine J_skip ?_
      refine JQ_then_n ?_
      refine J_keep (l' := [(0, _), (1, _), (7, _), (16, _), (17, _), (18, _), (19, _), (20, _), (21, _)]) ⟨rfl, rfl, rfl, rfl, rfl, rfl, rfl, rfl, rfl, trivial⟩ ?_
      refine J_draw [2, 6, 10, 13] (by kernel_rfl) ?_
      refine JA_takeP (i := 0) rfl rfl (by kernel_rfl) (by kernel_rfl) (by kernel_rfl) rfl (wn0 rfl) (rp_move rfl rfl) rfl ?_
      refine JA_takeP (i := 1) rfl rfl (by kernel_rfl) (by kernel_rfl) (by kernel_rfl) rfl (wn0 rfl) (rp_fieldC (off' := 2) rfl rfl fa_58_2 rfl) rfl ?_
      refine JA_takeL (i := 2) rfl rfl (by kernel_rfl) (by kernel_rfl) (by kernel_rfl) rfl rfl (by repeat (first | exact Pk.nil _ | (refine Pk.pick (by repeat (first | exact Rm.here _ | apply Rm.there)) ?_))) (wn0 rfl) (rv_cell rfl rfl ag_3 (by repeat (first | exact List.Mem.head _ | apply List.Mem.tail)) (by rfl)) rfl ?_
      refine JA_takeP (i := 3) rfl rfl (by kernel_rfl) (by kernel_rfl) (by kernel_rfl) rfl (wn0 rfl) (rp2 rfl rfl (fun ρ hx hy w => ex_add rfl hx hy (by omega))) rfl ?_
      refine JA_takeP (i := 4) rfl rfl (by kernel_rfl) (by kernel_rfl) (by kernel_rfl) rfl (wn0 rfl) (rp_move rfl rfl) rfl ?_
      refine JA_takeP (i := 5) rfl rfl (by kernel_rfl) (by kernel_rfl) (by kernel_rfl) rfl (wn0 rfl) (rp_fieldC (off' := 3) rfl rfl fa_58_3 rfl) rfl ?_
      refine JA_takeL (i := 6) rfl rfl (by kernel_rfl) (by kernel_rfl) (by kernel_rfl) rfl rfl (by repeat (first | exact Pk.nil _ | (refine Pk.pick (by repeat (first | exact Rm.here _ | apply Rm.there)) ?_))) (wn0 rfl) (rv_cell rfl rfl ag_3 (by repeat (first | exact List.Mem.head _ | apply List.Mem.tail)) (by rfl)) rfl ?_
      refine JA_takeP (i := 7) rfl rfl (by kernel_rfl) (by kernel_rfl) (by kernel_rfl) rfl (wn0 rfl) (rp2 rfl rfl (fun ρ hx hy w => ex_add rfl hx hy (by omega))) rfl ?_
      refine JA_takeP (i := 8) rfl rfl (by kernel_rfl) (by kernel_rfl) (by kernel_rfl) rfl (wn0 rfl) (rp_move rfl rfl) rfl ?_
      refine JA_takeP (i := 9) rfl rfl (by kernel_rfl) (by kernel_rfl) (by kernel_rfl) rfl (wn0 rfl) (rp_fieldC (off' := 4) rfl rfl fa_58_4 rfl) rfl ?_
      refine JA_takeL (i := 10) rfl rfl (by kernel_rfl) (by kernel_rfl) (by kernel_rfl) rfl rfl (by repeat (first | exact Pk.nil _ | (refine Pk.pick (by repeat (first | exact Rm.here _ | apply Rm.there)) ?_))) (wn0 rfl) (rv_cell rfl rfl ag_3 (by repeat (first | exact List.Mem.head _ | apply List.Mem.tail)) (by rfl)) rfl ?_
      refine JA_takeP (i := 11) rfl rfl (by kernel_rfl) (by kernel_rfl) (by kernel_rfl) rfl (wn0 rfl) (rp2 rfl rfl (fun ρ hx hy w => ex_add rfl hx hy (by omega))) rfl ?_
      refine JA_takeP (i := 12) rfl rfl (by kernel_rfl) (by kernel_rfl) (by kernel_rfl) rfl (wn0 rfl) (rp_fieldC (off' := 5) rfl rfl fa_58_5 rfl) rfl ?_
      refine JA_takeL (i := 13) rfl rfl (by kernel_rfl) (by kernel_rfl) (by kernel_rfl) rfl rfl (by repeat (first | exact Pk.nil _ | (refine Pk.pick (by repeat (first | exact Rm.here _ | apply Rm.there)) ?_))) (wn0 rfl) (rv_cell rfl rfl ag_3 (by repeat (first | exact List.Mem.head _ | apply List.Mem.tail)) (by rfl)) rfl ?_
      refine JA_takeP (i := 14) rfl rfl (by kernel_rfl) (by kernel_rfl) (by kernel_rfl) rfl (wn0 rfl) (rp2 rfl rfl (fun ρ hx hy w => ex_sub rfl hx hy (by omega))) rfl ?_
      refine JA_takeP (i := 15) rfl rfl (by kernel_rfl) (by kernel_rfl) (by kernel_rfl) rfl (wn0 rfl) (rp_assign rfl rfl) rfl ?_
      refine JA_takeP (i := 16) rfl rfl (by kernel_rfl) (by kernel_rfl) (by kernel_rfl) rfl (wn0 rfl) (rp_assign rfl rfl) rfl ?_
      refine JA_takeP (i := 17) rfl rfl (by kernel_rfl) (by kernel_rfl) (by kernel_rfl) rfl (wn0 rfl) (rp_assign rfl rfl) rfl ?_
      refine JA_done (by kernel_rfl) ?_
      refine JQ_block_n ?_
      refine JQ_then_n ?_
      refine J_keep (l' := [(0, _), (1, _), (7, _), (16, _), (17, _), (18, _), (19, _), (20, _)]) ⟨rfl, rfl, rfl, rfl, rfl, rfl, rfl, rfl, trivial⟩ ?_
      refine J_reg ?_
      refine JM rfl rfl rfl rfl rfl ?_
      refine JL_val rfl (wn0 rfl) (RP.rv (rp2 rfl rfl (fun ρ hx hy w => ex_add rfl hx hy (by omega)))) rfl ?_
      refine JN rfl rfl rfl rfl rfl ?_
      refine JL_nil ?_
      have e1 : sumG (·.games) tb (i + 1) = sumG (·.games) tb i + r.games := by rw [sumG_succ _ tb i hlt, hr]
      have e2 : sumG (·.wins) tb (i + 1) = sumG (·.wins) tb i + r.wins := by rw [sumG_succ _ tb i hlt, hr]
      have e3 : sumG (fun r => r.fr - r.ag) tb (i + 1) = sumG (fun r => r.fr - r.ag) tb i + r.fr - r.ag := by rw [sumG_succ _ tb i hlt, hr]; omega
      have e4 : tms tb (i + 1) = r.team :: tms tb i := by rw [tms_succ tb i hlt, hr]
      exact JQ_round (i + 1) ⟨by omega, by rw [e1]; omega, by rw [e2]; omega, by rw [e3]; omega⟩ (by omega) ⟨rfl, rfl, rfl, rfl, (by rw [e1]; rfl), (by rw [e2]; rfl), (by rw [e3]; rfl), (congrArg some (by go_num)), trivial⟩ (by (try dsimp only); rw [e4]; repeat (first | exact Pk.nil _ | (refine Pk.pick (by repeat (first | exact Rm.here _ | apply Rm.there)) ?_)))
    ·refine JL_nil ?_
     refine JQ_then_n ?_
     refine J_no rfl rfl ?_
     refine J_exit ?_
     refine JQ_then_x ?_
     refine JQ_then_x ?_
     refine JQ_block_y rfl ?_
     refine JQ_then_n ?_
     refine J_seq ?_
     obtain rfl : i = tb.length := by omega
     refine J_keep (l' := [(1, _), (17, _), (18, _), (19, _)]) ⟨rfl, rfl, rfl, rfl, trivial⟩ ?_
     refine J_reg ?_
     refine JM rfl rfl rfl rfl rfl ?_
     refine JM rfl rfl rfl rfl rfl ?_
     refine JL_val rfl (wn0 rfl) (RP.rv (rp1 rfl (fun ρ hx w => ex_len (A := _) (c := _) rfl Try.underlying44 hx))) rfl ?_
     refine JL_val rfl (wn0 rfl) (RP.rv (rp2 rfl rfl (fun ρ hx hy w => ex_mul rfl hx hy (by omega)))) rfl ?_
     refine JL_val rfl (wn0 rfl) (RP.rv (rp2 rfl rfl (fun ρ hx hy w => ex_eqlD rfl hx hy))) rfl ?_
     refine JL_decT (by have := hok.games; omega) ?_
     refine JM rfl rfl rfl rfl rfl ?_
     refine JL_val rfl (wn_g rfl rfl rfl rfl) (RP.rv (rp_move rfl rfl)) rfl ?_
     refine JL_val rfl (wn_g rfl rfl rfl rfl) (RP.rv (rp_move rfl rfl)) rfl ?_
     refine JL_val rfl (wn_g rfl rfl rfl rfl) (RP.rv (rp1 rfl (fun ρ hx w => ex_len (A := _) (c := _) rfl Try.underlying44 hx))) rfl ?_
     refine JL_val rfl (wn_g rfl rfl rfl rfl) (RP.rv (rp2 rfl rfl (fun ρ hx hy w => ex_eqlD rfl hx hy))) rfl ?_
     refine JL_decT (by have := hok.wins; omega) ?_
     refine JL_val rfl (wn0 rfl) (RP.rv (rp_pickT rfl rfl rfl)) rfl ?_
     refine JM rfl rfl rfl rfl rfl ?_
     refine JL_val rfl (wn_g rfl rfl rfl rfl) (RP.rv (rp_move rfl rfl)) rfl ?_
     refine JL_val rfl (wn_g rfl rfl rfl rfl) (RP.rv (rp2 rfl rfl (fun ρ hx hy w => ex_eqlD rfl hx hy))) rfl ?_
     refine JL_decT hok.pts ?_
     refine JL_val rfl (wn0 rfl) (RP.rv (rp_pickT rfl rfl rfl)) rfl ?_
     refine JM rfl rfl rfl rfl rfl ?_
     refine JL_op (wn_g rfl rfl rfl rfl) (ow_callB (ec_fn rfl rfl cf_14) rfl rfl (fun w hw => awake14 w)) (fun _ _ => ?_)
     refine JL_val rfl (wn0 rfl) (RP.rv (rp_pickT rfl rfl rfl)) rfl ?_
     refine JN rfl rfl rfl rfl rfl ?_
     refine JL_nil ?_
     refine JQ_then_n ?_
     refine J_ret ?_
     refine JR_one rfl (rr_tmp rfl) ?_
     intro w' hw
     exact ⟨rfl, hw.bel⟩
end Go.Proofs.Ytlfbbofcnonhdaa
