/- LeaguePrizes: the walk. -/
import Derived.Test.YtlfbbofcnonhdaaPe
import Derived.Test.YtlfbbofcnonhdaaPb
import Derived.Test.YtlfbbofcnonhdaaEa
namespace Go.Proofs.Ytlfbbofcnonhdaa
open Go Go.RowKit Go.Proofs

/-- What is summed up of the first rows. -/
def smT (p : List (Int × Int)) (t : List Rw) (k : Nat) : Int := ((t.take k).map fun r => trm (ownP p r)).sum
theorem smT_succ (p : List (Int × Int)) (t : List Rw) (k : Nat) (h : k < t.length) : smT p t (k + 1) = smT p t k + trm (ownP p (t[k]'h)) := by
  unfold smT; rw [List.take_succ_eq_append_getElem h, List.map_append, List.sum_append]; simp
theorem trm_bd {o : Int × Int} (h2 : 1 ≤ o.2 ∧ o.2 ≤ 16) (h1 : 0 ≤ o.1 ∧ o.1 ≤ 16000000) : (0 ≤ 720720 / o.2 ∧ 720720 / o.2 ≤ 720720) ∧ 0 ≤ o.1 * (720720 / o.2) ∧ o.1 * (720720 / o.2) ≤ 16000000 * 720720 := by
  have q1 : 0 ≤ 720720 / o.2 := Int.ediv_nonneg (by omega) (by omega)
  have q2 : 720720 / o.2 ≤ 720720 := Int.ediv_le_self _ (by omega)
  exact ⟨⟨q1, q2⟩, Int.mul_nonneg h1.1 q1, Int.mul_le_mul h1.2 q2 q1 (by omega)⟩
theorem own_get {p : List (Int × Int)} {r : Rw} (h : r.team.toNat < p.length) : p[r.team.toNat]'h = ownP p r := by
  unfold ownP; rw [List.getD_eq_getElem?_getD, List.getElem?_eq_getElem h]; rfl
theorem prz_pz {T : Int} {l : List Re} {pz : List Int} (h : przE T l pz = 0) : pz.length ≤ 16 ∧ ∀ x ∈ pz, 0 ≤ x ∧ x ≤ 1000000 := by
  have hc := prz_chk h
  unfold przE at h
  rw [if_neg (by omega)] at h
  split at h
  · omega
  · split at h
    · omega
    · rename_i h1 h2
      refine ⟨by omega, fun x hx => ?_⟩
      by_cases hb : 0 ≤ x ∧ x ≤ 1000000
      · exact hb
      · exact absurd (List.any_eq_true.2 ⟨x, hx, by simp [hb]⟩) h2
theorem take_min (pz : List Int) (n : Nat) : pz.take (min pz.length n) = pz.take n := by
  rcases Nat.le_total pz.length n with h | h
  · rw [Nat.min_eq_left h, List.take_length, List.take_of_length_le h]
  · rw [Nat.min_eq_right h]
set_option maxRecDepth 100000 in
set_option maxHeartbeats 4000000 in
theorem Prizes_law (T : Int) (A : Option Addr) (n c : Nat) (A2 : Option Addr) (n2 c2 : Nat) (w : World) (h1 : RowP 6 eR W6 w A n c) (h2 : RowP 1 eI W64 w A2 n2 c2) : Calls Try.prog 8 #[.int .i64 T, .slice A n c, .slice A2 n2 c2] w (Back (.bool true) w) := by
  refine J_enter (fun _ => False) (vs := [.int .i64 T, .slice A n c, .slice A2 n2 c2]) (k := 188) (l := [(0, .int .i64 T), (1, .slice A n c), (2, .slice A2 n2 c2)]) Try.func8 rfl rfl Try.ntmps8 rfl rfl (Wd.start _) ?_
  refine J_seq ?_
  refine J_reg ?_
  refine JL_val rfl (wn0 rfl) (RP.rv (rp_assign rfl rfl)) rfl ?_
  refine JL_nil ?_
  refine JQ_then_n ?_
  refine J_seq ?_
  refine J_seq ?_
  refine J_reg ?_
  refine JL_val rfl (wn0 rfl) (RP.rv (rp_move rfl rfl)) rfl ?_
  refine JL_val rfl (wn0 rfl) (RP.rv (rp1 rfl (fun ρ hx w => ex_len (A := _) (c := _) rfl Try.underlying44 hx))) rfl ?_
  refine JL_val rfl (wn0 rfl) (RP.rv (rp2 rfl rfl (fun ρ hx hy w => ex_gtrD rfl hx hy))) rfl ?_
  refine JL_dec (fun h20 => ?_) (fun h20 => ?_)
  · refine JL_val rfl (wn0 rfl) (RP.rv (rp_move rfl rfl)) rfl ?_
    refine JL_off rfl (wn_g rfl rfl rfl rfl) rfl ?_
    refine JL_off rfl (wn_g rfl rfl rfl rfl) rfl ?_
    refine JL_off rfl (wn_g rfl rfl rfl rfl) rfl ?_
    refine JL_val rfl (wn0 rfl) (RP.rv (rp_pickT rfl rfl rfl)) rfl ?_
    refine JL_nil ?_
    refine JQ_then_n ?_
    refine J_yes rfl rfl ?_
    refine J_seq ?_
    refine J_keep (l' := []) trivial ?_
    refine J_reg ?_
    refine JL_op (wn0 rfl) (ow_callB (ec_fn rfl rfl cf_14) rfl rfl (fun w hw => awake14 w)) (fun _ _ => ?_)
    refine JL_val rfl (wn0 rfl) (RP.rv (rp_assign rfl rfl)) rfl ?_
    refine JL_nil ?_
    refine JQ_then_n ?_
    refine J_ret ?_
    refine JQ_then_r ?_
    refine JR_one rfl (rr_tmp rfl) ?_
    intro w' hw
    exact ⟨rfl, hw.bel⟩
  · refine JL_val rfl (wn0 rfl) (RP.rv (rp_move rfl rfl)) rfl ?_
    refine JL_val rfl (wn_g rfl rfl rfl rfl) (RP.rv (rp_move rfl rfl)) rfl ?_
    refine JL_val rfl (wn_g rfl rfl rfl rfl) (RP.rv (rp1 rfl (fun ρ hx w => ex_len (A := _) (c := _) rfl Try.underlying26 hx))) rfl ?_
    refine JL_val rfl (wn_g rfl rfl rfl rfl) (RP.rv (rp2 rfl rfl (fun ρ hx hy w => ex_gtrD rfl hx hy))) rfl ?_
    refine JL_dec (fun h24 => ?_) (fun h24 => ?_)
    · refine JL_val rfl (wn0 rfl) (RP.rv (rp_pickF rfl rfl rfl)) rfl ?_
      refine JL_nil ?_
      refine JQ_then_n ?_
      refine J_yes rfl rfl ?_
      refine J_seq ?_
      refine J_keep (l' := []) trivial ?_
      refine J_reg ?_
      refine JL_op (wn0 rfl) (ow_callB (ec_fn rfl rfl cf_14) rfl rfl (fun w hw => awake14 w)) (fun _ _ => ?_)
      refine JL_val rfl (wn0 rfl) (RP.rv (rp_assign rfl rfl)) rfl ?_
      refine JL_nil ?_
      refine JQ_then_n ?_
      refine J_ret ?_
      refine JQ_then_r ?_
      refine JR_one rfl (rr_tmp rfl) ?_
      intro w' hw
      exact ⟨rfl, hw.bel⟩
    · refine JL_val rfl (wn0 rfl) (RP.rv (rp_pickF rfl rfl rfl)) rfl ?_
      refine JL_nil ?_
      refine JQ_then_n ?_
      refine J_no rfl rfl ?_
      refine J_skip ?_
      refine JQ_then_n ?_
      refine J_seq ?_
      obtain ⟨l, rfl, hrow, hw6⟩ := h1 (by omega)
      obtain ⟨pz, rfl, hpz, -⟩ := h2 (by omega)
      obtain ⟨tb, htb⟩ : ∃ L, tblP T l = L := ⟨_, rfl⟩
      obtain ⟨pb, hpb⟩ : ∃ L, przP T l pz = L := ⟨_, rfl⟩
      refine J_keep (l' := [(0, _), (1, _), (2, _)]) ⟨rfl, rfl, rfl, trivial⟩ ?_
      refine J_reg ?_
      refine JL_val rfl (wn0 rfl) (RP.rv (rp_move rfl rfl)) rfl ?_
      refine JL_val rfl (wn0 rfl) (RP.rv (rp_move rfl rfl)) rfl ?_
      refine JL_val rfl (wn0 rfl) (RP.rv (rp_move rfl rfl)) rfl ?_
      refine JL_opS (wn0 rfl) (ow_callSE (L := pb) (ec_fn rfl rfl cf_27) rfl rfl (fun w hw => by rw [← hpb]; exact Prizes27 T l pz _ _ w (hrow.up ER hw.bel) hw6 (hpz.up EI hw.bel))) (fun A31 c31 => ?_)
      refine JL_val rfl (wn0 rfl) (RP.rv (rp_move rfl rfl)) rfl ?_
      refine JL_val rfl (wn0 rfl) (RP.rv (rp_run1 (f := fun u => Instr.extract u 0) (fun _ => rfl) rfl (fun _ => rfl))) rfl ?_
      refine JL_val rfl (wn0 rfl) (RP.rv (rp_run1 (f := fun u => Instr.extract u 1) (fun _ => rfl) rfl (fun _ => rfl))) rfl ?_
      refine JL_val rfl (wn0 rfl) (RP.rv (rp_assign rfl rfl)) rfl ?_
      refine JL_val rfl (wn0 rfl) (RP.rv (rp_assign rfl rfl)) rfl ?_
      refine JL_nil ?_
      refine JQ_then_n ?_
      refine J_seq ?_
      refine J_keep (l' := [(0, _), (1, _), (2, _), (7, _), (8, _)]) ⟨rfl, rfl, rfl, rfl, rfl, trivial⟩ ?_
      refine J_reg ?_
      refine JL_val rfl (wn0 rfl) (RP.rv (rp_move rfl rfl)) rfl ?_
      refine JL_val rfl (wn0 rfl) (RP.rv (rp_move rfl rfl)) rfl ?_
      refine JL_opS (wn0 rfl) (ow_callSE (L := tb) (ec_fn rfl rfl cf_25) rfl rfl (fun w hw => by rw [← htb]; exact Table25 T l _ w (hrow.up ER hw.bel) hw6)) (fun A37 c37 => ?_)
      refine JL_val rfl (wn0 rfl) (RP.rv (rp_move rfl rfl)) rfl ?_
      refine JL_val rfl (wn0 rfl) (RP.rv (rp_run1 (f := fun u => Instr.extract u 0) (fun _ => rfl) rfl (fun _ => rfl))) rfl ?_
      refine JL_val rfl (wn0 rfl) (RP.rv (rp_run1 (f := fun u => Instr.extract u 1) (fun _ => rfl) rfl (fun _ => rfl))) rfl ?_
      refine JL_val rfl (wn0 rfl) (RP.rv (rp_assign rfl rfl)) rfl ?_
      refine JL_val rfl (wn0 rfl) (RP.rv (rp_assign rfl rfl)) rfl ?_
      refine JL_nil ?_
      refine JQ_then_n ?_
      refine J_seq ?_
      refine J_seq ?_
      refine J_keep (l' := [(0, _), (2, _), (7, _), (8, _), (9, _), (10, _)]) ⟨rfl, rfl, rfl, rfl, rfl, rfl, trivial⟩ ?_
      refine J_reg ?_
      refine JL_val rfl (wn0 rfl) (RP.rv (rp_move rfl rfl)) rfl ?_
      refine JL_val rfl (wn0 rfl) (RP.rv (rp2 rfl rfl (fun ρ hx hy w => ex_neq29 rfl hx hy))) rfl ?_
      refine JL_dec (fun h41 => ?_) (fun h41 => ?_)
      · refine JL_nil ?_
        refine JQ_then_n ?_
        refine J_yes rfl rfl ?_
        refine J_seq ?_
        have hpb0 : pb.length = 0 := by rw [← hpb]; unfold przP; rw [if_neg h41]; rfl
        refine J_keep (l' := [(7, _)]) ⟨rfl, trivial⟩ ?_
        refine J_reg ?_
        refine JL_val rfl (wn0 rfl) (RP.rv (rp_move rfl rfl)) rfl ?_
        refine JL_val rfl (wn0 rfl) (RP.rv (rp1 rfl (fun ρ hx w => ex_len (A := _) (c := _) rfl Try.underlying41 hx))) rfl ?_
        refine JL_val rfl (wn0 rfl) (RP.rv (rp2 rfl rfl (fun ρ hx hy w => ex_eqlD rfl hx hy))) rfl ?_
        refine JL_decT (by omega) ?_
        refine JL_val rfl (wn0 rfl) (RP.rv (rp_move rfl rfl)) rfl ?_
        refine JL_op (wn_g rfl rfl rfl rfl) (ow_callB (ec_fn rfl rfl cf_14) rfl rfl (fun w hw => awake14 w)) (fun _ _ => ?_)
        refine JL_val rfl (wn0 rfl) (RP.rv (rp_pickT rfl rfl rfl)) rfl ?_
        refine JL_val rfl (wn0 rfl) (RP.rv (rp_assign rfl rfl)) rfl ?_
        refine JL_nil ?_
        refine JQ_then_n ?_
        refine J_ret ?_
        refine JQ_then_r ?_
        refine JR_one rfl (rr_tmp rfl) ?_
        intro w' hw
        exact ⟨rfl, hw.bel⟩
      · refine JL_nil ?_
        refine JQ_then_n ?_
        refine J_no rfl rfl ?_
        refine J_skip ?_
        refine JQ_then_n ?_
        refine J_seq ?_
        refine J_seq ?_
        have hpe : przE T l pz = 0 := by omega
        have hc := prz_chk hpe
        have hlen := (tblP_len T l).2 hc
        have hlen2 := (przP_len T l pz).2 hpe
        have hT := (chk_ok hc).1
        have hok := prz_ok hpe
        have hpv := prz_pz hpe
        rw [htb] at hlen hok
        rw [hpb] at hlen2 hok
        refine J_reg ?_
        refine JL_val rfl (wn0 rfl) (RP.rv (rp_move rfl rfl)) rfl ?_
        refine JL_val rfl (wn0 rfl) (RP.rv (rp2 rfl rfl (fun ρ hx hy w => ex_neq29 rfl hx hy))) rfl ?_
        refine JL_decF (by omega) ?_
        refine JL_val rfl (wn0 rfl) (RP.rv (rp_move rfl rfl)) rfl ?_
        refine JL_val rfl (wn_g rfl rfl rfl rfl) (RP.rv (rp_move rfl rfl)) rfl ?_
        refine JL_val rfl (wn_g rfl rfl rfl rfl) (RP.rv (rp1 rfl (fun ρ hx w => ex_len (A := _) (c := _) rfl Try.underlying41 hx))) rfl ?_
        refine JL_val rfl (wn_g rfl rfl rfl rfl) (RP.rv (rp_move rfl rfl)) rfl ?_
        refine JL_val rfl (wn_g rfl rfl rfl rfl) (RP.rv (rp2 rfl rfl (fun ρ hx hy w => ex_neqD rfl hx hy))) rfl ?_
        refine JL_decF (by omega) ?_
        refine JL_val rfl (wn0 rfl) (RP.rv (rp_pickF rfl rfl rfl)) rfl ?_
        refine JL_val rfl (wn0 rfl) (RP.rv (rp_move rfl rfl)) rfl ?_
        refine JL_val rfl (wn_g rfl rfl rfl rfl) (RP.rv (rp_move rfl rfl)) rfl ?_
        refine JL_val rfl (wn_g rfl rfl rfl rfl) (RP.rv (rp1 rfl (fun ρ hx w => ex_len (A := _) (c := _) rfl Try.underlying45 hx))) rfl ?_
        refine JL_val rfl (wn_g rfl rfl rfl rfl) (RP.rv (rp_move rfl rfl)) rfl ?_
        refine JL_val rfl (wn_g rfl rfl rfl rfl) (RP.rv (rp2 rfl rfl (fun ρ hx hy w => ex_neqD rfl hx hy))) rfl ?_
        refine JL_decF (by omega) ?_
        refine JL_val rfl (wn0 rfl) (RP.rv (rp_pickF rfl rfl rfl)) rfl ?_
        refine JL_nil ?_
        refine JQ_then_n ?_
        refine J_no rfl rfl ?_
        refine J_skip ?_
        refine JQ_then_n ?_
        refine J_seq ?_
        refine J_fact (fun hf => ?_)
        obtain ⟨g9, rfl⟩ := own_some (A := A37) (ty := 58) (k := 8) (m := tb.length) hf (by repeat (first | exact List.Mem.head _ | apply List.Mem.tail)) (by omega)
        obtain ⟨g7, rfl⟩ := own_some (A := A31) (ty := 42) (k := 2) (m := pb.length) hf (by repeat (first | exact List.Mem.head _ | apply List.Mem.tail)) (by omega)
        refine J_keep (l' := [(0, _), (2, _), (7, _), (9, _)]) ⟨rfl, rfl, rfl, rfl, trivial⟩ ?_
        refine J_reg ?_
        refine JL_val rfl (wn0 rfl) (RP.rv (rp_assign rfl rfl)) rfl ?_
        refine JL_val rfl (wn0 rfl) (RP.rv (rp_assign rfl rfl)) rfl ?_
        refine JL_nil ?_
        refine JQ_then_n ?_
        obtain ⟨fb, hfb0⟩ : ∃ b, falB pz (min pz.length T.toNat) = b := ⟨_, rfl⟩
        obtain ⟨wt, hwt⟩ : ∃ s, (pz.take T.toNat).sum = s := ⟨_, rfl⟩
        refine J_cut (T := Unit) (fun _ => True) (fun _ => [(7, .slice (some ⟨g7, 0, none⟩) pb.length c31), (9, .slice (some ⟨g9, 0, none⟩) tb.length c37), (11, .bool fb), (12, .int .i64 wt)]) (fun _ => [ownB 58 8 (some ⟨g9, 0, none⟩) tb.length c37 (tb.flatMap eW), ownB 42 2 (some ⟨g7, 0, none⟩) pb.length c31 (pb.flatMap eP)]) ?_ ?_
        · refine J_seq ?_
          refine J_reg ?_
          refine JL_val rfl (wn0 rfl) (RP.rv (rp_assign rfl rfl)) rfl ?_
          refine JL_nil ?_
          refine JQ_then_n ?_
          refine J_block ?_
          refine J_loop (T := Nat) (fun k => k ≤ pz.length ∧ (k : Int) ≤ T) (fun k => [(0, .int .i64 T), (2, .slice A2 pz.length c2), (7, .slice (some ⟨g7, 0, none⟩) pb.length c31), (9, .slice (some ⟨g9, 0, none⟩) tb.length c37), (11, .bool (falB pz k)), (12, .int .i64 (pz.take k).sum), (13, .int .i64 (k : Nat))]) (fun k => [ownB 58 8 (some ⟨g9, 0, none⟩) tb.length c37 (tb.flatMap eW), ownB 42 2 (some ⟨g7, 0, none⟩) pb.length c31 (pb.flatMap eP)]) (fun k => pz.length - k) 0 ⟨Nat.zero_le _, by omega⟩ ⟨rfl, rfl, rfl, rfl, rfl, rfl, rfl, trivial⟩ (by repeat (first | exact Pk.nil _ | (refine Pk.pick (by repeat (first | exact Rm.here _ | apply Rm.there)) ?_))) ?_
          rintro k ⟨hk, hkT⟩
          refine J_seq ?_
          refine J_seq ?_
          refine J_reg ?_
          refine JL_val rfl (wn0 rfl) (RP.rv (rp_move rfl rfl)) rfl ?_
          refine JL_val rfl (wn0 rfl) (RP.rv (rp_move rfl rfl)) rfl ?_
          refine JL_val rfl (wn0 rfl) (RP.rv (rp1 rfl (fun ρ hx w => ex_len (A := _) (c := _) rfl Try.underlying26 hx))) rfl ?_
          refine JL_val rfl (wn0 rfl) (RP.rv (rp2 rfl rfl (fun ρ hx hy w => ex_lssD rfl hx hy))) rfl ?_
          refine JL_dec (fun h65 => ?_) (fun h65 => ?_)
          · refine JL_val rfl (wn0 rfl) (RP.rv (rp_move rfl rfl)) rfl ?_
            refine JL_val rfl (wn_g rfl rfl rfl rfl) (RP.rv (rp_move rfl rfl)) rfl ?_
            refine JL_val rfl (wn_g rfl rfl rfl rfl) (RP.rv (rp_move rfl rfl)) rfl ?_
            refine JL_val rfl (wn_g rfl rfl rfl rfl) (RP.rv (rp2 rfl rfl (fun ρ hx hy w => ex_lssD rfl hx hy))) rfl ?_
            refine JL_dec (fun h69 => ?_) (fun h69 => ?_)
            · refine JL_val rfl (wn0 rfl) (RP.rv (rp_pickT rfl rfl rfl)) rfl ?_
              refine JL_nil ?_
              refine JQ_then_n ?_
              refine J_yes rfl rfl ?_
              refine J_skip ?_
              refine JQ_then_n ?_
              refine J_seq ?_
              refine J_block ?_
              refine J_seq ?_
              have hlt : k < pz.length := by omega
              obtain ⟨Ag, cg, eg, -, -, hA⟩ := id hpz
              injection eg with e1 e2 e3
              subst e1 e3
              obtain ⟨b, p, rfl, hh⟩ := hA (by intro e; subst e; simp at hlt)
              have gk : pz.getD k 0 = pz[k]'hlt := by rw [List.getD_eq_getElem?_getD, List.getElem?_eq_getElem hlt]; rfl
              have gk1 : pz.getD (k - 1) 0 = pz[k - 1]'(by omega) := by rw [List.getD_eq_getElem?_getD, List.getElem?_eq_getElem (by omega)]; rfl
              rcases hfb : falB pz k with _ | _
              · refine J_keep (l' := [(0, _), (2, _), (7, _), (9, _), (11, _), (12, _), (13, _)]) ⟨rfl, rfl, rfl, rfl, rfl, rfl, rfl, trivial⟩ ?_
                refine J_draw [8, 13] (by kernel_rfl) ?_
                refine JA_takeP (i := 0) rfl rfl (by kernel_rfl) (by kernel_rfl) (by kernel_rfl) rfl (wn0 rfl) (rp_move rfl rfl) rfl ?_
                refine JA_takeP (i := 1) rfl rfl (by kernel_rfl) (by kernel_rfl) (by kernel_rfl) rfl (wn0 rfl) (rp_move rfl rfl) rfl ?_
                refine JA_off (i := 2) rfl rfl (by kernel_rfl) (by kernel_rfl) (by kernel_rfl) rfl (wn_g rfl rfl rfl rfl) rfl ?_
                refine JA_off (i := 3) rfl rfl (by kernel_rfl) (by kernel_rfl) (by kernel_rfl) rfl (wn_g rfl rfl rfl rfl) rfl ?_
                refine JA_off (i := 4) rfl rfl (by kernel_rfl) (by kernel_rfl) (by kernel_rfl) rfl (wn_g rfl rfl rfl rfl) rfl ?_
                refine JA_off (i := 5) rfl rfl (by kernel_rfl) (by kernel_rfl) (by kernel_rfl) rfl (wn_u rfl rfl rfl) rfl ?_
                refine JA_off (i := 6) rfl rfl (by kernel_rfl) (by kernel_rfl) (by kernel_rfl) rfl (wn_u rfl rfl rfl) rfl ?_
                refine JA_off (i := 7) rfl rfl (by kernel_rfl) (by kernel_rfl) (by kernel_rfl) rfl (wn_u rfl rfl rfl) rfl ?_
                refine JA_offL (i := 8) rfl rfl (by kernel_rfl) (by kernel_rfl) (by kernel_rfl) rfl (by repeat (first | exact Pk.nil _ | (refine Pk.pick (by repeat (first | exact Rm.here _ | apply Rm.there)) ?_))) (wn_u rfl rfl rfl) rfl ?_
                refine JA_off (i := 9) rfl rfl (by kernel_rfl) (by kernel_rfl) (by kernel_rfl) rfl (wn_u rfl rfl rfl) rfl ?_
                refine JA_off (i := 10) rfl rfl (by kernel_rfl) (by kernel_rfl) (by kernel_rfl) rfl (wn_u rfl rfl rfl) rfl ?_
                refine JA_off (i := 11) rfl rfl (by kernel_rfl) (by kernel_rfl) (by kernel_rfl) rfl (wn_u rfl rfl rfl) rfl ?_
                refine JA_off (i := 12) rfl rfl (by kernel_rfl) (by kernel_rfl) (by kernel_rfl) rfl (wn_u rfl rfl rfl) rfl ?_
                refine JA_offL (i := 13) rfl rfl (by kernel_rfl) (by kernel_rfl) (by kernel_rfl) rfl (by repeat (first | exact Pk.nil _ | (refine Pk.pick (by repeat (first | exact Rm.here _ | apply Rm.there)) ?_))) (wn_u rfl rfl rfl) rfl ?_
                refine JA_off (i := 14) rfl rfl (by kernel_rfl) (by kernel_rfl) (by kernel_rfl) rfl (wn_u rfl rfl rfl) rfl ?_
                refine JA_off (i := 15) rfl rfl (by kernel_rfl) (by kernel_rfl) (by kernel_rfl) rfl (wn_g rfl rfl rfl rfl) rfl ?_
                refine JA_takeP (i := 16) rfl rfl (by kernel_rfl) (by kernel_rfl) (by kernel_rfl) rfl (wn0 rfl) (rp_pickF rfl rfl rfl) rfl ?_
                refine JA_takeP (i := 17) rfl rfl (by kernel_rfl) (by kernel_rfl) (by kernel_rfl) rfl (wn0 rfl) (rp_assign rfl rfl) rfl ?_
                refine JA_done (by kernel_rfl) ?_
                refine JQ_then_n ?_
                have hsb := sum_bd (pz.take k) (fun x hx => hpv.2 x (List.mem_of_mem_take hx))
                have htl : (pz.take k).length ≤ 16 := by rw [List.length_take]; omega
                have hvx := hpv.2 _ (List.getElem_mem hlt)
                refine J_keep (l' := [(0, _), (2, _), (7, _), (9, _), (11, _), (12, _), (13, _)]) ⟨rfl, rfl, rfl, rfl, rfl, rfl, rfl, trivial⟩ ?_
                refine J_reg ?_
                refine JL_val rfl (wn0 rfl) (RP.rv (rp_move rfl rfl)) rfl ?_
                refine JL_val rfl (wn0 rfl) (RP.rv (rp_move rfl rfl)) rfl ?_
                refine JL_val rfl (wn0 rfl) (RP.rv (rp_move rfl rfl)) rfl ?_
                refine JL_val rfl (wn0 rfl) (RP.rv (rp2 rfl rfl (fun ρ hx hy w => ex_indexI (k := k) rfl hx hy rfl Try.underlying26 sz_3 (by omega)))) rfl ?_
                refine JL_val rfl (wn0 rfl) (rv_hold rfl rfl ag_3 (fun h => h) hh (by omega) (by omega) rfl) rfl ?_
                refine JL_val rfl (wn0 rfl) (RP.rv (rp2 rfl rfl (fun ρ hx hy w => ex_add rfl hx hy (by omega)))) rfl ?_
                refine JL_val rfl (wn0 rfl) (RP.rv (rp_assign rfl rfl)) rfl ?_
                refine JL_nil ?_
                refine JQ_block_n ?_
                refine JQ_then_n ?_
                refine J_keep (l' := [(0, _), (2, _), (7, _), (9, _), (11, _), (12, _), (13, _)]) ⟨rfl, rfl, rfl, rfl, rfl, rfl, rfl, trivial⟩ ?_
                refine J_reg ?_
                refine JL_val rfl (wn0 rfl) (RP.rv (rp_move rfl rfl)) rfl ?_
                refine JL_val rfl (wn0 rfl) (RP.rv (rp2 rfl rfl (fun ρ hx hy w => ex_add rfl hx hy (by omega)))) rfl ?_
                refine JL_val rfl (wn0 rfl) (RP.rv (rp_assign rfl rfl)) rfl ?_
                refine JL_nil ?_
                exact JQ_round (k + 1) ⟨by omega, by omega⟩ (by omega) ⟨rfl, rfl, rfl, rfl, (by rw [falB_succ, hfb]; rfl), (by rw [sum_snoc pz k hlt]; rfl), (congrArg some (by go_num)), trivial⟩ (by repeat (first | exact Pk.nil _ | (refine Pk.pick (by repeat (first | exact Rm.here _ | apply Rm.there)) ?_)))
              · refine J_keep (l' := [(0, _), (2, _), (7, _), (9, _), (11, _), (12, _), (13, _)]) ⟨rfl, rfl, rfl, rfl, rfl, rfl, rfl, trivial⟩ ?_
                refine J_draw [8, 13] (by kernel_rfl) ?_
                refine JA_takeP (i := 0) rfl rfl (by kernel_rfl) (by kernel_rfl) (by kernel_rfl) rfl (wn0 rfl) (rp_move rfl rfl) rfl ?_
                refine JA_takeP (i := 1) rfl rfl (by kernel_rfl) (by kernel_rfl) (by kernel_rfl) rfl (wn0 rfl) (rp_move rfl rfl) rfl ?_
                refine JA_takeP (i := 2) rfl rfl (by kernel_rfl) (by kernel_rfl) (by kernel_rfl) rfl (wn_g rfl rfl rfl rfl) (rp_move rfl rfl) rfl ?_
                refine JA_takeP (i := 3) rfl rfl (by kernel_rfl) (by kernel_rfl) (by kernel_rfl) rfl (wn_g rfl rfl rfl rfl) (rp2 rfl rfl (fun ρ hx hy w => ex_eqlD rfl hx hy)) rfl ?_
                refine JA_dec (fun h76 => ?_) (fun h76 => ?_)
                · refine JA_takeP (i := 4) rfl rfl (by kernel_rfl) (by kernel_rfl) (by kernel_rfl) rfl (wn_g rfl rfl rfl rfl) (rp_move rfl rfl) rfl ?_
                  refine JA_off (i := 5) rfl rfl (by kernel_rfl) (by kernel_rfl) (by kernel_rfl) rfl (wn_g rfl rfl rfl rfl) rfl ?_
                  refine JA_off (i := 6) rfl rfl (by kernel_rfl) (by kernel_rfl) (by kernel_rfl) rfl (wn_g rfl rfl rfl rfl) rfl ?_
                  refine JA_off (i := 7) rfl rfl (by kernel_rfl) (by kernel_rfl) (by kernel_rfl) rfl (wn_g rfl rfl rfl rfl) rfl ?_
                  refine JA_offL (i := 8) rfl rfl (by kernel_rfl) (by kernel_rfl) (by kernel_rfl) rfl (by repeat (first | exact Pk.nil _ | (refine Pk.pick (by repeat (first | exact Rm.here _ | apply Rm.there)) ?_))) (wn_g rfl rfl rfl rfl) rfl ?_
                  refine JA_off (i := 9) rfl rfl (by kernel_rfl) (by kernel_rfl) (by kernel_rfl) rfl (wn_g rfl rfl rfl rfl) rfl ?_
                  refine JA_off (i := 10) rfl rfl (by kernel_rfl) (by kernel_rfl) (by kernel_rfl) rfl (wn_g rfl rfl rfl rfl) rfl ?_
                  refine JA_off (i := 11) rfl rfl (by kernel_rfl) (by kernel_rfl) (by kernel_rfl) rfl (wn_g rfl rfl rfl rfl) rfl ?_
                  refine JA_off (i := 12) rfl rfl (by kernel_rfl) (by kernel_rfl) (by kernel_rfl) rfl (wn_g rfl rfl rfl rfl) rfl ?_
                  refine JA_offL (i := 13) rfl rfl (by kernel_rfl) (by kernel_rfl) (by kernel_rfl) rfl (by repeat (first | exact Pk.nil _ | (refine Pk.pick (by repeat (first | exact Rm.here _ | apply Rm.there)) ?_))) (wn_g rfl rfl rfl rfl) rfl ?_
                  refine JA_off (i := 14) rfl rfl (by kernel_rfl) (by kernel_rfl) (by kernel_rfl) rfl (wn_g rfl rfl rfl rfl) rfl ?_
                  refine JA_takeP (i := 15) rfl rfl (by kernel_rfl) (by kernel_rfl) (by kernel_rfl) rfl (wn_g rfl rfl rfl rfl) (rp_pickT rfl rfl rfl) rfl ?_
                  refine JA_takeP (i := 16) rfl rfl (by kernel_rfl) (by kernel_rfl) (by kernel_rfl) rfl (wn0 rfl) (rp_pickT rfl rfl rfl) rfl ?_
                  refine JA_takeP (i := 17) rfl rfl (by kernel_rfl) (by kernel_rfl) (by kernel_rfl) rfl (wn0 rfl) (rp_assign rfl rfl) rfl ?_
                  refine JA_done (by kernel_rfl) ?_
                  refine JQ_then_n ?_
                  have hsb := sum_bd (pz.take k) (fun x hx => hpv.2 x (List.mem_of_mem_take hx))
                  have htl : (pz.take k).length ≤ 16 := by rw [List.length_take]; omega
                  have hvx := hpv.2 _ (List.getElem_mem hlt)
                  refine J_keep (l' := [(0, _), (2, _), (7, _), (9, _), (11, _), (12, _), (13, _)]) ⟨rfl, rfl, rfl, rfl, rfl, rfl, rfl, trivial⟩ ?_
                  refine J_reg ?_
                  refine JL_val rfl (wn0 rfl) (RP.rv (rp_move rfl rfl)) rfl ?_
                  refine JL_val rfl (wn0 rfl) (RP.rv (rp_move rfl rfl)) rfl ?_
                  refine JL_val rfl (wn0 rfl) (RP.rv (rp_move rfl rfl)) rfl ?_
                  refine JL_val rfl (wn0 rfl) (RP.rv (rp2 rfl rfl (fun ρ hx hy w => ex_indexI (k := k) rfl hx hy rfl Try.underlying26 sz_3 (by omega)))) rfl ?_
                  refine JL_val rfl (wn0 rfl) (rv_hold rfl rfl ag_3 (fun h => h) hh (by omega) (by omega) rfl) rfl ?_
                  refine JL_val rfl (wn0 rfl) (RP.rv (rp2 rfl rfl (fun ρ hx hy w => ex_add rfl hx hy (by omega)))) rfl ?_
                  refine JL_val rfl (wn0 rfl) (RP.rv (rp_assign rfl rfl)) rfl ?_
                  refine JL_nil ?_
                  refine JQ_block_n ?_
                  refine JQ_then_n ?_
                  refine J_keep (l' := [(0, _), (2, _), (7, _), (9, _), (11, _), (12, _), (13, _)]) ⟨rfl, rfl, rfl, rfl, rfl, rfl, rfl, trivial⟩ ?_
                  refine J_reg ?_
                  refine JL_val rfl (wn0 rfl) (RP.rv (rp_move rfl rfl)) rfl ?_
                  refine JL_val rfl (wn0 rfl) (RP.rv (rp2 rfl rfl (fun ρ hx hy w => ex_add rfl hx hy (by omega)))) rfl ?_
                  refine JL_val rfl (wn0 rfl) (RP.rv (rp_assign rfl rfl)) rfl ?_
                  refine JL_nil ?_
                  exact JQ_round (k + 1) ⟨by omega, by omega⟩ (by omega) ⟨rfl, rfl, rfl, rfl, (by rw [falB_succ, hfb, decide_eq_true (Or.inl (by omega))]; rfl), (by rw [sum_snoc pz k hlt]; rfl), (congrArg some (by go_num)), trivial⟩ (by repeat (first | exact Pk.nil _ | (refine Pk.pick (by repeat (first | exact Rm.here _ | apply Rm.there)) ?_)))
                · refine JA_takeP (i := 4) rfl rfl (by kernel_rfl) (by kernel_rfl) (by kernel_rfl) rfl (wn_g rfl rfl rfl rfl) (rp_move rfl rfl) rfl ?_
                  refine JA_takeP (i := 5) rfl rfl (by kernel_rfl) (by kernel_rfl) (by kernel_rfl) rfl (wn_g rfl rfl rfl rfl) (rp_move rfl rfl) rfl ?_
                  refine JA_takeP (i := 6) rfl rfl (by kernel_rfl) (by kernel_rfl) (by kernel_rfl) rfl (wn_g rfl rfl rfl rfl) (rp_move rfl rfl) rfl ?_
                  refine JA_takeP (i := 7) rfl rfl (by kernel_rfl) (by kernel_rfl) (by kernel_rfl) rfl (wn_g rfl rfl rfl rfl) (rp2 rfl rfl (fun ρ hx hy w => ex_indexI (k := k) rfl hx hy rfl Try.underlying26 sz_3 (by omega))) rfl ?_
                  refine JA_takeL (i := 8) rfl rfl (by kernel_rfl) (by kernel_rfl) (by kernel_rfl) rfl rfl (by repeat (first | exact Pk.nil _ | (refine Pk.pick (by repeat (first | exact Rm.here _ | apply Rm.there)) ?_))) (wn_g rfl rfl rfl rfl) (rv_hold rfl rfl ag_3 (fun h => h) hh (by omega) (by omega) rfl) rfl ?_
                  refine JA_takeP (i := 9) rfl rfl (by kernel_rfl) (by kernel_rfl) (by kernel_rfl) rfl (wn_g rfl rfl rfl rfl) (rp_move rfl rfl) rfl ?_
                  refine JA_takeP (i := 10) rfl rfl (by kernel_rfl) (by kernel_rfl) (by kernel_rfl) rfl (wn_g rfl rfl rfl rfl) (rp_move rfl rfl) rfl ?_
                  refine JA_takeP (i := 11) rfl rfl (by kernel_rfl) (by kernel_rfl) (by kernel_rfl) rfl (wn_g rfl rfl rfl rfl) (rp2 rfl rfl (fun ρ hx hy w => ex_sub rfl hx hy (by omega))) rfl ?_
                  refine JA_takeP (i := 12) rfl rfl (by kernel_rfl) (by kernel_rfl) (by kernel_rfl) rfl (wn_g rfl rfl rfl rfl) (rp2 rfl rfl (fun ρ hx hy w => ex_indexI (k := k - 1) rfl hx hy (by omega) Try.underlying26 sz_3 (by omega))) rfl ?_
                  refine JA_takeL (i := 13) rfl rfl (by kernel_rfl) (by kernel_rfl) (by kernel_rfl) rfl rfl (by repeat (first | exact Pk.nil _ | (refine Pk.pick (by repeat (first | exact Rm.here _ | apply Rm.there)) ?_))) (wn_g rfl rfl rfl rfl) (rv_hold rfl rfl ag_3 (fun h => h) hh (by omega) (by omega) rfl) rfl ?_
                  refine JA_takeP (i := 14) rfl rfl (by kernel_rfl) (by kernel_rfl) (by kernel_rfl) rfl (wn_g rfl rfl rfl rfl) (rp2 rfl rfl (fun ρ hx hy w => ex_leqD rfl hx hy)) rfl ?_
                  refine JA_dec (fun h87 => ?_) (fun h87 => ?_)
                  · refine JA_takeP (i := 15) rfl rfl (by kernel_rfl) (by kernel_rfl) (by kernel_rfl) rfl (wn_g rfl rfl rfl rfl) (rp_pickF rfl rfl rfl) rfl ?_
                    refine JA_takeP (i := 16) rfl rfl (by kernel_rfl) (by kernel_rfl) (by kernel_rfl) rfl (wn0 rfl) (rp_pickT rfl rfl rfl) rfl ?_
                    refine JA_takeP (i := 17) rfl rfl (by kernel_rfl) (by kernel_rfl) (by kernel_rfl) rfl (wn0 rfl) (rp_assign rfl rfl) rfl ?_
                    refine JA_done (by kernel_rfl) ?_
                    refine JQ_then_n ?_
                    have hsb := sum_bd (pz.take k) (fun x hx => hpv.2 x (List.mem_of_mem_take hx))
                    have htl : (pz.take k).length ≤ 16 := by rw [List.length_take]; omega
                    have hvx := hpv.2 _ (List.getElem_mem hlt)
                    refine J_keep (l' := [(0, _), (2, _), (7, _), (9, _), (11, _), (12, _), (13, _)]) ⟨rfl, rfl, rfl, rfl, rfl, rfl, rfl, trivial⟩ ?_
                    refine J_reg ?_
                    refine JL_val rfl (wn0 rfl) (RP.rv (rp_move rfl rfl)) rfl ?_
                    refine JL_val rfl (wn0 rfl) (RP.rv (rp_move rfl rfl)) rfl ?_
                    refine JL_val rfl (wn0 rfl) (RP.rv (rp_move rfl rfl)) rfl ?_
                    refine JL_val rfl (wn0 rfl) (RP.rv (rp2 rfl rfl (fun ρ hx hy w => ex_indexI (k := k) rfl hx hy rfl Try.underlying26 sz_3 (by omega)))) rfl ?_
                    refine JL_val rfl (wn0 rfl) (rv_hold rfl rfl ag_3 (fun h => h) hh (by omega) (by omega) rfl) rfl ?_
                    refine JL_val rfl (wn0 rfl) (RP.rv (rp2 rfl rfl (fun ρ hx hy w => ex_add rfl hx hy (by omega)))) rfl ?_
                    refine JL_val rfl (wn0 rfl) (RP.rv (rp_assign rfl rfl)) rfl ?_
                    refine JL_nil ?_
                    refine JQ_block_n ?_
                    refine JQ_then_n ?_
                    refine J_keep (l' := [(0, _), (2, _), (7, _), (9, _), (11, _), (12, _), (13, _)]) ⟨rfl, rfl, rfl, rfl, rfl, rfl, rfl, trivial⟩ ?_
                    refine J_reg ?_
                    refine JL_val rfl (wn0 rfl) (RP.rv (rp_move rfl rfl)) rfl ?_
                    refine JL_val rfl (wn0 rfl) (RP.rv (rp2 rfl rfl (fun ρ hx hy w => ex_add rfl hx hy (by omega)))) rfl ?_
                    refine JL_val rfl (wn0 rfl) (RP.rv (rp_assign rfl rfl)) rfl ?_
                    refine JL_nil ?_
                    exact JQ_round (k + 1) ⟨by omega, by omega⟩ (by omega) ⟨rfl, rfl, rfl, rfl, (by rw [falB_succ, hfb, gk, gk1, decide_eq_true (Or.inr h87)]; rfl), (by rw [sum_snoc pz k hlt]; rfl), (congrArg some (by go_num)), trivial⟩ (by repeat (first | exact Pk.nil _ | (refine Pk.pick (by repeat (first | exact Rm.here _ | apply Rm.there)) ?_)))
                  · refine JA_takeP (i := 15) rfl rfl (by kernel_rfl) (by kernel_rfl) (by kernel_rfl) rfl (wn_g rfl rfl rfl rfl) (rp_pickF rfl rfl rfl) rfl ?_
                    refine JA_takeP (i := 16) rfl rfl (by kernel_rfl) (by kernel_rfl) (by kernel_rfl) rfl (wn0 rfl) (rp_pickT rfl rfl rfl) rfl ?_
                    refine JA_takeP (i := 17) rfl rfl (by kernel_rfl) (by kernel_rfl) (by kernel_rfl) rfl (wn0 rfl) (rp_assign rfl rfl) rfl ?_
                    refine JA_done (by kernel_rfl) ?_
                    refine JQ_then_n ?_
                    have hsb := sum_bd (pz.take k) (fun x hx => hpv.2 x (List.mem_of_mem_take hx))
                    have htl : (pz.take k).length ≤ 16 := by rw [List.length_take]; omega
                    have hvx := hpv.2 _ (List.getElem_mem hlt)
                    refine J_keep (l' := [(0, _), (2, _), (7, _), (9, _), (11, _), (12, _), (13, _)]) ⟨rfl, rfl, rfl, rfl, rfl, rfl, rfl, trivial⟩ ?_
                    refine J_reg ?_
                    refine JL_val rfl (wn0 rfl) (RP.rv (rp_move rfl rfl)) rfl ?_
                    refine JL_val rfl (wn0 rfl) (RP.rv (rp_move rfl rfl)) rfl ?_
                    refine JL_val rfl (wn0 rfl) (RP.rv (rp_move rfl rfl)) rfl ?_
                    refine JL_val rfl (wn0 rfl) (RP.rv (rp2 rfl rfl (fun ρ hx hy w => ex_indexI (k := k) rfl hx hy rfl Try.underlying26 sz_3 (by omega)))) rfl ?_
                    refine JL_val rfl (wn0 rfl) (rv_hold rfl rfl ag_3 (fun h => h) hh (by omega) (by omega) rfl) rfl ?_
                    refine JL_val rfl (wn0 rfl) (RP.rv (rp2 rfl rfl (fun ρ hx hy w => ex_add rfl hx hy (by omega)))) rfl ?_
                    refine JL_val rfl (wn0 rfl) (RP.rv (rp_assign rfl rfl)) rfl ?_
                    refine JL_nil ?_
                    refine JQ_block_n ?_
                    refine JQ_then_n ?_
                    refine J_keep (l' := [(0, _), (2, _), (7, _), (9, _), (11, _), (12, _), (13, _)]) ⟨rfl, rfl, rfl, rfl, rfl, rfl, rfl, trivial⟩ ?_
                    refine J_reg ?_
                    refine JL_val rfl (wn0 rfl) (RP.rv (rp_move rfl rfl)) rfl ?_
                    refine JL_val rfl (wn0 rfl) (RP.rv (rp2 rfl rfl (fun ρ hx hy w => ex_add rfl hx hy (by omega)))) rfl ?_
                    refine JL_val rfl (wn0 rfl) (RP.rv (rp_assign rfl rfl)) rfl ?_
                    refine JL_nil ?_
                    exact JQ_round (k + 1) ⟨by omega, by omega⟩ (by omega) ⟨rfl, rfl, rfl, rfl, (by rw [falB_succ, hfb, gk, gk1, decide_eq_false (by omega)]; rfl), (by rw [sum_snoc pz k hlt]; rfl), (congrArg some (by go_num)), trivial⟩ (by repeat (first | exact Pk.nil _ | (refine Pk.pick (by repeat (first | exact Rm.here _ | apply Rm.there)) ?_)))
            · refine JL_val rfl (wn0 rfl) (RP.rv (rp_pickT rfl rfl rfl)) rfl ?_
              refine JL_nil ?_
              refine JQ_then_n ?_
              refine J_no rfl rfl ?_
              refine J_exit ?_
              refine JQ_then_x ?_
              refine JQ_then_x ?_
              refine JQ_block_y rfl ?_
              have hkm : k = min pz.length T.toNat := by omega
              have z1 : falB pz k = fb := by rw [hkm]; exact hfb0
              have z2 : (pz.take k).sum = wt := by rw [hkm, take_min]; exact hwt
              rw [z1, z2]
              exact JQ_cut () trivial ⟨rfl, rfl, rfl, rfl, trivial⟩ (by repeat (first | exact Pk.nil _ | (refine Pk.pick (by repeat (first | exact Rm.here _ | apply Rm.there)) ?_)))
          · refine JL_val rfl (wn0 rfl) (RP.rv (rp_move rfl rfl)) rfl ?_
            refine JL_off rfl (wn_g rfl rfl rfl rfl) rfl ?_
            refine JL_off rfl (wn_g rfl rfl rfl rfl) rfl ?_
            refine JL_off rfl (wn_g rfl rfl rfl rfl) rfl ?_
            refine JL_val rfl (wn0 rfl) (RP.rv (rp_pickF rfl rfl rfl)) rfl ?_
            refine JL_nil ?_
            refine JQ_then_n ?_
            refine J_no rfl rfl ?_
            refine J_exit ?_
            refine JQ_then_x ?_
            refine JQ_then_x ?_
            refine JQ_block_y rfl ?_
            have hkm : k = min pz.length T.toNat := by omega
            have z1 : falB pz k = fb := by rw [hkm]; exact hfb0
            have z2 : (pz.take k).sum = wt := by rw [hkm, take_min]; exact hwt
            rw [z1, z2]
            exact JQ_cut () trivial ⟨rfl, rfl, rfl, rfl, trivial⟩ (by repeat (first | exact Pk.nil _ | (refine Pk.pick (by repeat (first | exact Rm.here _ | apply Rm.there)) ?_)))
        · rintro - -
          refine J_seq ?_
          refine J_reg ?_
          refine JL_val rfl (wn0 rfl) (RP.rv (rp_assign rfl rfl)) rfl ?_
          refine JL_nil ?_
          refine JQ_then_n ?_
          refine J_seq ?_
          refine J_seq ?_
          refine J_reg ?_
          refine JL_val rfl (wn0 rfl) (RP.rv (rp_assign rfl rfl)) rfl ?_
          refine JL_nil ?_
          refine JQ_then_n ?_
          refine J_block ?_
          refine J_loop (T := Nat) (fun i => i ≤ tb.length ∧ 0 ≤ smT pb tb i ∧ smT pb tb i ≤ (i : Int) * 11531520000000) (fun i => [(7, .slice (some ⟨g7, 0, none⟩) pb.length c31), (9, .slice (some ⟨g9, 0, none⟩) tb.length c37), (11, .bool fb), (12, .int .i64 wt), (14, .int .i64 (smT pb tb i)), (15, .int .i64 (i : Nat))]) (fun i => [ownB 58 8 (some ⟨g9, 0, none⟩) tb.length c37 (tb.flatMap eW), ownB 42 2 (some ⟨g7, 0, none⟩) pb.length c31 (pb.flatMap eP)]) (fun i => tb.length - i) 0 ⟨Nat.zero_le _, by simp [smT], by simp [smT]⟩ ⟨rfl, rfl, rfl, rfl, rfl, rfl, trivial⟩ (by repeat (first | exact Pk.nil _ | (refine Pk.pick (by repeat (first | exact Rm.here _ | apply Rm.there)) ?_))) ?_
          rintro i ⟨hi, hs0, hs1⟩
          refine J_seq ?_
          refine J_seq ?_
          refine J_reg ?_
          refine JL_val rfl (wn0 rfl) (RP.rv (rp_move rfl rfl)) rfl ?_
          refine JL_val rfl (wn0 rfl) (RP.rv (rp_move rfl rfl)) rfl ?_
          refine JL_val rfl (wn0 rfl) (RP.rv (rp1 rfl (fun ρ hx w => ex_len (A := _) (c := _) rfl Try.underlying45 hx))) rfl ?_
          refine JL_val rfl (wn0 rfl) (RP.rv (rp2 rfl rfl (fun ρ hx hy w => ex_lssD rfl hx hy))) rfl ?_
          refine JL_dec (fun h99 => ?_) (fun h99 => ?_)
          · refine JL_nil ?_
            refine JQ_then_n ?_
            refine J_yes rfl rfl ?_
            refine J_skip ?_
            refine JQ_then_n ?_
            refine J_seq ?_
            refine J_block ?_
            refine J_seq ?_
            have hlt : i < tb.length := by omega
            obtain ⟨r, hr⟩ : ∃ r, tb[i]'hlt = r := ⟨_, rfl⟩
            have hrm : r ∈ tb := by rw [← hr]; exact List.getElem_mem _
            obtain ⟨t1, t2⟩ := hok.team r hrm
            obtain ⟨o, hop⟩ : ∃ o, ownP pb r = o := ⟨_, rfl⟩
            have ho : pb[r.team.toNat]'t2 = o := by rw [own_get t2]; exact hop
            obtain ⟨o2, o1, hgc⟩ := hok.one r hrm
            rw [hop] at o2 o1 hgc
            refine J_keep (l' := [(7, _), (9, _), (11, _), (12, _), (14, _), (15, _)]) ⟨rfl, rfl, rfl, rfl, rfl, rfl, trivial⟩ ?_
            refine J_reg ?_
            refine JL_val rfl (wn0 rfl) (RP.rv (rp_move rfl rfl)) rfl ?_
            refine JL_val rfl (wn0 rfl) (RP.rv (rp_move rfl rfl)) rfl ?_
            refine JL_val rfl (wn0 rfl) (RP.rv (rp_move rfl rfl)) rfl ?_
            refine JL_val rfl (wn0 rfl) (RP.rv (rp2 rfl rfl (fun ρ hx hy w => ex_indexI (k := i) rfl hx hy rfl Try.underlying45 sz_58 (by omega)))) rfl ?_
            refine JL_val rfl (wn0 rfl) (RP.rv (rp_fieldE (i' := 0) rfl rfl fa_58_0 rfl)) rfl ?_
            refine JL_val rfl (wn0 rfl) (rv_ownE (k := 8) (j := i) EW rfl rfl ag_3 (by repeat (first | exact List.Mem.head _ | apply List.Mem.tail)) (by omega) (by omega) (by rw [hr]; rfl)) rfl ?_
            refine JL_val rfl (wn0 rfl) (RP.rv (rp2 rfl rfl (fun ρ hx hy w => ex_indexI (k := r.team.toNat) rfl hx hy (by omega) Try.underlying41 sz_42 (by omega)))) rfl ?_
            refine JL_val rfl (wn0 rfl) (rv_ownaggE (j := r.team.toNat) (cs := [.int .i64 o.1, .int .i64 o.2]) EP rfl rfl ag_42 sz_42 (by repeat (first | exact List.Mem.head _ | apply List.Mem.tail)) (by omega) (by rw [ho]; rfl)) rfl ?_
            refine JL_op (wn0 rfl) (ow_alloc rfl rfl zv_42 rfl rfl) (fun b16 hb16 => ?_)
            refine JL_op (wn0 rfl) (ow_store (cs := [_, _]) (vs' := [_, _]) rfl rfl rfl rfl rfl sz_42 rfl (by repeat (first | exact At.here _ | apply At.there)) (by rfl) (by rfl)) (fun _ _ => ?_)
            refine JL_nil ?_
            refine JQ_then_n ?_
            refine J_seq ?_
            refine J_seq ?_
            refine J_keep (l' := [(7, _), (9, _), (11, _), (12, _), (14, _), (15, _), (16, _)]) ⟨rfl, rfl, rfl, rfl, rfl, rfl, rfl, trivial⟩ ?_
            refine J_draw [1, 5, 10, 15, 17, 19] (by kernel_rfl) ?_
            refine JA_takeP (i := 0) rfl rfl (by kernel_rfl) (by kernel_rfl) (by kernel_rfl) rfl (wn0 rfl) (rp_arrC (off' := 1) rfl rfl rfl ia_42_1 rfl) rfl ?_
            refine JA_takeL (i := 1) rfl rfl (by kernel_rfl) (by kernel_rfl) (by kernel_rfl) rfl rfl (by repeat (first | exact Pk.nil _ | (refine Pk.pick (by repeat (first | exact Rm.here _ | apply Rm.there)) ?_))) (wn0 rfl) (rv_cell rfl rfl ag_3 (by repeat (first | exact List.Mem.head _ | apply List.Mem.tail)) (by rfl)) rfl ?_
            refine JA_takeP (i := 2) rfl rfl (by kernel_rfl) (by kernel_rfl) (by kernel_rfl) rfl (wn0 rfl) (rp2 rfl rfl (fun ρ hx hy w => ex_lssD rfl hx hy)) rfl ?_
            refine JA_decF (by omega) ?_
            refine JA_takeP (i := 3) rfl rfl (by kernel_rfl) (by kernel_rfl) (by kernel_rfl) rfl (wn0 rfl) (rp_move rfl rfl) rfl ?_
            refine JA_takeP (i := 4) rfl rfl (by kernel_rfl) (by kernel_rfl) (by kernel_rfl) rfl (wn_g rfl rfl rfl rfl) (rp_arrC (off' := 1) rfl rfl rfl ia_42_1 rfl) rfl ?_
            refine JA_takeL (i := 5) rfl rfl (by kernel_rfl) (by kernel_rfl) (by kernel_rfl) rfl rfl (by repeat (first | exact Pk.nil _ | (refine Pk.pick (by repeat (first | exact Rm.here _ | apply Rm.there)) ?_))) (wn_g rfl rfl rfl rfl) (rv_cell rfl rfl ag_3 (by repeat (first | exact List.Mem.head _ | apply List.Mem.tail)) (by rfl)) rfl ?_
            refine JA_takeP (i := 6) rfl rfl (by kernel_rfl) (by kernel_rfl) (by kernel_rfl) rfl (wn_g rfl rfl rfl rfl) (rp2 rfl rfl (fun ρ hx hy w => ex_gtrD rfl hx hy)) rfl ?_
            refine JA_decF (by omega) ?_
            refine JA_takeP (i := 7) rfl rfl (by kernel_rfl) (by kernel_rfl) (by kernel_rfl) rfl (wn0 rfl) (rp_pickF rfl rfl rfl) rfl ?_
            refine JA_takeP (i := 8) rfl rfl (by kernel_rfl) (by kernel_rfl) (by kernel_rfl) rfl (wn0 rfl) (rp_move rfl rfl) rfl ?_
            refine JA_takeP (i := 9) rfl rfl (by kernel_rfl) (by kernel_rfl) (by kernel_rfl) rfl (wn_g rfl rfl rfl rfl) (rp_arrC (off' := 0) rfl rfl rfl ia_42_0 rfl) rfl ?_
            refine JA_takeL (i := 10) rfl rfl (by kernel_rfl) (by kernel_rfl) (by kernel_rfl) rfl rfl (by repeat (first | exact Pk.nil _ | (refine Pk.pick (by repeat (first | exact Rm.here _ | apply Rm.there)) ?_))) (wn_g rfl rfl rfl rfl) (rv_cell rfl rfl ag_3 (by repeat (first | exact List.Mem.head _ | apply List.Mem.tail)) (by rfl)) rfl ?_
            refine JA_takeP (i := 11) rfl rfl (by kernel_rfl) (by kernel_rfl) (by kernel_rfl) rfl (wn_g rfl rfl rfl rfl) (rp2 rfl rfl (fun ρ hx hy w => ex_lssD rfl hx hy)) rfl ?_
            refine JA_decF (by omega) ?_
            refine JA_takeP (i := 12) rfl rfl (by kernel_rfl) (by kernel_rfl) (by kernel_rfl) rfl (wn0 rfl) (rp_pickF rfl rfl rfl) rfl ?_
            refine JA_takeP (i := 13) rfl rfl (by kernel_rfl) (by kernel_rfl) (by kernel_rfl) rfl (wn0 rfl) (rp_move rfl rfl) rfl ?_
            refine JA_takeP (i := 14) rfl rfl (by kernel_rfl) (by kernel_rfl) (by kernel_rfl) rfl (wn_g rfl rfl rfl rfl) (rp_arrC (off' := 0) rfl rfl rfl ia_42_0 rfl) rfl ?_
            refine JA_takeL (i := 15) rfl rfl (by kernel_rfl) (by kernel_rfl) (by kernel_rfl) rfl rfl (by repeat (first | exact Pk.nil _ | (refine Pk.pick (by repeat (first | exact Rm.here _ | apply Rm.there)) ?_))) (wn_g rfl rfl rfl rfl) (rv_cell rfl rfl ag_3 (by repeat (first | exact List.Mem.head _ | apply List.Mem.tail)) (by rfl)) rfl ?_
            refine JA_takeP (i := 16) rfl rfl (by kernel_rfl) (by kernel_rfl) (by kernel_rfl) rfl (wn_g rfl rfl rfl rfl) (rp_arrC (off' := 1) rfl rfl rfl ia_42_1 rfl) rfl ?_
            refine JA_takeL (i := 17) rfl rfl (by kernel_rfl) (by kernel_rfl) (by kernel_rfl) rfl rfl (by repeat (first | exact Pk.nil _ | (refine Pk.pick (by repeat (first | exact Rm.here _ | apply Rm.there)) ?_))) (wn_g rfl rfl rfl rfl) (rv_cell rfl rfl ag_3 (by repeat (first | exact List.Mem.head _ | apply List.Mem.tail)) (by rfl)) rfl ?_
            refine JA_takeL (i := 19) rfl rfl (by kernel_rfl) (by kernel_rfl) (by kernel_rfl) rfl rfl (by repeat (first | exact Pk.nil _ | (refine Pk.pick (by repeat (first | exact Rm.here _ | apply Rm.there)) ?_))) (wn_g rfl rfl rfl rfl) (rv_agg (cs := [_, _]) rfl rfl ag_42 sz_42 (by repeat (first | exact List.Mem.head _ | apply List.Mem.tail)) (by rfl)) rfl ?_
            refine JA_one (i := 18) (by kernel_rfl) rfl (wn_g rfl rfl rfl rfl) (ow_callB (ec_fn rfl rfl cf_33) rfl rfl (fun w hw => (by have := Lowest33 o.1 o.2 w (by omega) (by omega); rw [hgc, show ((1 : Nat) : Int) = 1 from rfl, Int.ediv_one, Int.ediv_one] at this; exact this))) trivial (fun _ _ => ?_)
            refine JA_takeP (i := 20) rfl rfl (by kernel_rfl) (by kernel_rfl) (by kernel_rfl) rfl (wn_g rfl rfl rfl rfl) (rp2 rfl rfl (fun ρ hx hy w => ex_neq42 rfl hx hy)) rfl ?_
            refine JA_decF (by simp) ?_
            refine JA_takeP (i := 21) rfl rfl (by kernel_rfl) (by kernel_rfl) (by kernel_rfl) rfl (wn0 rfl) (rp_pickF rfl rfl rfl) rfl ?_
            refine JA_done (by kernel_rfl) ?_
            refine JQ_then_n ?_
            refine J_no rfl rfl ?_
            refine J_skip ?_
            refine JQ_then_n ?_
            refine J_seq ?_
            have htm := trm_bd o2 o1
            have etd : Int.tdiv 720720 o.2 = 720720 / o.2 := Int.tdiv_eq_ediv_of_nonneg (by omega)
            refine J_keep (l' := [(7, _), (9, _), (11, _), (12, _), (14, _), (15, _), (16, _)]) ⟨rfl, rfl, rfl, rfl, rfl, rfl, rfl, trivial⟩ ?_
            refine J_draw [2, 4] (by kernel_rfl) ?_
            refine JA_takeP (i := 0) rfl rfl (by kernel_rfl) (by kernel_rfl) (by kernel_rfl) rfl (wn0 rfl) (rp_move rfl rfl) rfl ?_
            refine JA_takeP (i := 1) rfl rfl (by kernel_rfl) (by kernel_rfl) (by kernel_rfl) rfl (wn0 rfl) (rp_arrC (off' := 0) rfl rfl rfl ia_42_0 rfl) rfl ?_
            refine JA_takeL (i := 2) rfl rfl (by kernel_rfl) (by kernel_rfl) (by kernel_rfl) rfl rfl (by repeat (first | exact Pk.nil _ | (refine Pk.pick (by repeat (first | exact Rm.here _ | apply Rm.there)) ?_))) (wn0 rfl) (rv_cell rfl rfl ag_3 (by repeat (first | exact List.Mem.head _ | apply List.Mem.tail)) (by rfl)) rfl ?_
            refine JA_takeP (i := 3) rfl rfl (by kernel_rfl) (by kernel_rfl) (by kernel_rfl) rfl (wn0 rfl) (rp_arrC (off' := 1) rfl rfl rfl ia_42_1 rfl) rfl ?_
            refine JA_takeL (i := 4) rfl rfl (by kernel_rfl) (by kernel_rfl) (by kernel_rfl) rfl rfl (by repeat (first | exact Pk.nil _ | (refine Pk.pick (by repeat (first | exact Rm.here _ | apply Rm.there)) ?_))) (wn0 rfl) (rv_cell rfl rfl ag_3 (by repeat (first | exact List.Mem.head _ | apply List.Mem.tail)) (by rfl)) rfl ?_
            refine JA_takeP (i := 5) rfl rfl (by kernel_rfl) (by kernel_rfl) (by kernel_rfl) rfl (wn0 rfl) (rp2 rfl rfl (fun ρ hx hy w => ex_quo rfl hx hy (by omega) (by omega))) rfl ?_
            refine JA_takeP (i := 6) rfl rfl (by kernel_rfl) (by kernel_rfl) (by kernel_rfl) rfl (wn0 rfl) (rp2 rfl rfl (fun ρ hx hy w => ex_mul rfl hx hy (by omega))) rfl ?_
            refine JA_takeP (i := 7) rfl rfl (by kernel_rfl) (by kernel_rfl) (by kernel_rfl) rfl (wn0 rfl) (rp2 rfl rfl (fun ρ hx hy w => ex_add rfl hx hy (by omega))) rfl ?_
            refine JA_takeP (i := 8) rfl rfl (by kernel_rfl) (by kernel_rfl) (by kernel_rfl) rfl (wn0 rfl) (rp_assign rfl rfl) rfl ?_
            refine JA_done (by kernel_rfl) ?_
            refine JQ_then_n ?_
            refine J_seq ?_
            refine J_seq ?_
            refine J_keep (l' := [(7, _), (9, _), (11, _), (12, _), (14, _), (15, _), (16, _)]) ⟨rfl, rfl, rfl, rfl, rfl, rfl, rfl, trivial⟩ ?_
            refine J_reg ?_
            refine JL_val rfl (wn0 rfl) (RP.rv (rp_move rfl rfl)) rfl ?_
            refine JL_val rfl (wn0 rfl) (RP.rv (rp2 rfl rfl (fun ρ hx hy w => ex_eqlD rfl hx hy))) rfl ?_
            refine JL_dec (fun h141 => ?_) (fun h141 => ?_)
            · refine JL_nil ?_
              refine JQ_then_n ?_
              refine J_yes rfl rfl ?_
              refine J_exit ?_
              refine JQ_then_x ?_
              refine JQ_block_y rfl ?_
              refine JQ_then_n ?_
              refine J_reg ?_
              refine JL_val rfl (wn0 rfl) (RP.rv (rp_move rfl rfl)) rfl ?_
              refine JL_val rfl (wn0 rfl) (RP.rv (rp2 rfl rfl (fun ρ hx hy w => ex_add rfl hx hy (by omega)))) rfl ?_
              refine JL_val rfl (wn0 rfl) (RP.rv (rp_assign rfl rfl)) rfl ?_
              refine JL_nil ?_
              have e1 : smT pb tb (i + 1) = smT pb tb i + o.1 * (720720 / o.2) := by rw [smT_succ pb tb i hlt, hr, hop]; rfl
              exact JQ_round (i + 1) ⟨by omega, by rw [e1]; omega, by rw [e1]; omega⟩ (by omega) ⟨rfl, rfl, rfl, rfl, (by rw [e1]; rfl), (congrArg some (by go_num)), trivial⟩ (by repeat (first | exact Pk.nil _ | (refine Pk.pick (by repeat (first | exact Rm.here _ | apply Rm.there)) ?_)))
            · refine JL_nil ?_
              refine JQ_then_n ?_
              refine J_no rfl rfl ?_
              refine J_skip ?_
              refine JQ_then_n ?_
              refine J_seq ?_
              obtain ⟨r', hr'⟩ : ∃ r, tb[i - 1]'(by omega) = r := ⟨_, rfl⟩
              have hrm' : r' ∈ tb := by rw [← hr']; exact List.getElem_mem _
              obtain ⟨t1', t2'⟩ := hok.team r' hrm'
              obtain ⟨o', hop'⟩ : ∃ o, ownP pb r' = o := ⟨_, rfl⟩
              have ho' : pb[r'.team.toNat]'t2' = o' := by rw [own_get t2']; exact hop'
              obtain ⟨o2', o1', -⟩ := hok.one r' hrm'
              rw [hop'] at o2' o1'
              have hpr := psub hok.pair _ _ (sub_pair (i := i - 1) (j := i) (by omega) hlt)
              rw [hr, hr', hop, hop', hfb0] at hpr
              refine J_reg ?_
              refine JL_val rfl (wn0 rfl) (RP.rv (rp_move rfl rfl)) rfl ?_
              refine JL_val rfl (wn0 rfl) (RP.rv (rp_move rfl rfl)) rfl ?_
              refine JL_val rfl (wn0 rfl) (RP.rv (rp_move rfl rfl)) rfl ?_
              refine JL_val rfl (wn0 rfl) (RP.rv (rp2 rfl rfl (fun ρ hx hy w => ex_sub rfl hx hy (by omega)))) rfl ?_
              refine JL_val rfl (wn0 rfl) (RP.rv (rp2 rfl rfl (fun ρ hx hy w => ex_indexI (k := i - 1) rfl hx hy (by omega) Try.underlying45 sz_58 (by omega)))) rfl ?_
              refine JL_val rfl (wn0 rfl) (RP.rv (rp_fieldE (i' := 0) rfl rfl fa_58_0 rfl)) rfl ?_
              refine JL_val rfl (wn0 rfl) (rv_ownE (k := 8) (j := i - 1) EW rfl rfl ag_3 (by repeat (first | exact List.Mem.head _ | apply List.Mem.tail)) (by omega) (by omega) (by rw [hr']; rfl)) rfl ?_
              refine JL_val rfl (wn0 rfl) (RP.rv (rp2 rfl rfl (fun ρ hx hy w => ex_indexI (k := r'.team.toNat) rfl hx hy (by omega) Try.underlying41 sz_42 (by omega)))) rfl ?_
              refine JL_val rfl (wn0 rfl) (rv_ownaggE (j := r'.team.toNat) (cs := [.int .i64 o'.1, .int .i64 o'.2]) EP rfl rfl ag_42 sz_42 (by repeat (first | exact List.Mem.head _ | apply List.Mem.tail)) (by omega) (by rw [ho']; rfl)) rfl ?_
              refine JL_op (wn0 rfl) (ow_alloc rfl rfl zv_42 rfl rfl) (fun b17 hb17 => ?_)
              refine JL_op (wn0 rfl) (ow_store (cs := [_, _]) (vs' := [_, _]) rfl rfl rfl rfl rfl sz_42 rfl (by repeat (first | exact At.here _ | apply At.there)) (by rfl) (by rfl)) (fun _ _ => ?_)
              refine JL_nil ?_
              refine JQ_then_n ?_
              refine J_seq ?_
              rcases fb with _ | _
              · have y1 : 0 ≤ o.1 * o'.2 ∧ o.1 * o'.2 ≤ 16000000 * 16 := ⟨Int.mul_nonneg o1.1 (by omega), Int.mul_le_mul o1.2 o2'.2 (by omega) (by omega)⟩
                have y2 : 0 ≤ o'.1 * o.2 ∧ o'.1 * o.2 ≤ 16000000 * 16 := ⟨Int.mul_nonneg o1'.1 (by omega), Int.mul_le_mul o1'.2 o2.2 (by omega) (by omega)⟩
                refine J_keep (l' := [(7, _), (9, _), (11, _), (12, _), (14, _), (15, _), (16, _), (17, _)]) ⟨rfl, rfl, rfl, rfl, rfl, rfl, rfl, rfl, trivial⟩ ?_
                refine J_draw [4, 10, 13, 14, 21, 23, 26, 28] (by kernel_rfl) ?_
                refine JA_takeP (i := 0) rfl rfl (by kernel_rfl) (by kernel_rfl) (by kernel_rfl) rfl (wn0 rfl) (rp_move rfl rfl) rfl ?_
                refine JA_takeP (i := 1) rfl rfl (by kernel_rfl) (by kernel_rfl) (by kernel_rfl) rfl (wn0 rfl) (rp_move rfl rfl) rfl ?_
                refine JA_takeP (i := 2) rfl rfl (by kernel_rfl) (by kernel_rfl) (by kernel_rfl) rfl (wn0 rfl) (rp2 rfl rfl (fun ρ hx hy w => ex_indexI (k := i) rfl hx hy rfl Try.underlying45 sz_58 (by omega))) rfl ?_
                refine JA_takeP (i := 3) rfl rfl (by kernel_rfl) (by kernel_rfl) (by kernel_rfl) rfl (wn0 rfl) (rp_fieldE (i' := 1) rfl rfl fa_58_1 rfl) rfl ?_
                refine JA_takeL (i := 4) rfl rfl (by kernel_rfl) (by kernel_rfl) (by kernel_rfl) rfl rfl (by repeat (first | exact Pk.nil _ | (refine Pk.pick (by repeat (first | exact Rm.here _ | apply Rm.there)) ?_))) (wn0 rfl) (rv_ownE (k := 8) (j := i) EW rfl rfl ag_3 (by repeat (first | exact List.Mem.head _ | apply List.Mem.tail)) (by omega) (by omega) (by rw [hr]; rfl)) rfl ?_
                refine JA_takeP (i := 5) rfl rfl (by kernel_rfl) (by kernel_rfl) (by kernel_rfl) rfl (wn0 rfl) (rp_move rfl rfl) rfl ?_
                refine JA_takeP (i := 6) rfl rfl (by kernel_rfl) (by kernel_rfl) (by kernel_rfl) rfl (wn0 rfl) (rp_move rfl rfl) rfl ?_
                refine JA_takeP (i := 7) rfl rfl (by kernel_rfl) (by kernel_rfl) (by kernel_rfl) rfl (wn0 rfl) (rp2 rfl rfl (fun ρ hx hy w => ex_sub rfl hx hy (by omega))) rfl ?_
                refine JA_takeP (i := 8) rfl rfl (by kernel_rfl) (by kernel_rfl) (by kernel_rfl) rfl (wn0 rfl) (rp2 rfl rfl (fun ρ hx hy w => ex_indexI (k := i - 1) rfl hx hy (by omega) Try.underlying45 sz_58 (by omega))) rfl ?_
                refine JA_takeP (i := 9) rfl rfl (by kernel_rfl) (by kernel_rfl) (by kernel_rfl) rfl (wn0 rfl) (rp_fieldE (i' := 1) rfl rfl fa_58_1 rfl) rfl ?_
                refine JA_takeL (i := 10) rfl rfl (by kernel_rfl) (by kernel_rfl) (by kernel_rfl) rfl rfl (by repeat (first | exact Pk.nil _ | (refine Pk.pick (by repeat (first | exact Rm.here _ | apply Rm.there)) ?_))) (wn0 rfl) (rv_ownE (k := 8) (j := i - 1) EW rfl rfl ag_3 (by repeat (first | exact List.Mem.head _ | apply List.Mem.tail)) (by omega) (by omega) (by rw [hr']; rfl)) rfl ?_
                refine JA_takeP (i := 11) rfl rfl (by kernel_rfl) (by kernel_rfl) (by kernel_rfl) rfl (wn0 rfl) (rp2 rfl rfl (fun ρ hx hy w => ex_eqlD rfl hx hy)) rfl ?_
                refine JA_dec (fun h162 => ?_) (fun h162 => ?_)
                · refine JA_takeP (i := 12) rfl rfl (by kernel_rfl) (by kernel_rfl) (by kernel_rfl) rfl (wn0 rfl) (rp_move rfl rfl) rfl ?_
                  refine JA_takeL (i := 13) rfl rfl (by kernel_rfl) (by kernel_rfl) (by kernel_rfl) rfl rfl (by repeat (first | exact Pk.nil _ | (refine Pk.pick (by repeat (first | exact Rm.here _ | apply Rm.there)) ?_))) (wn_g rfl rfl rfl rfl) (rv_agg (cs := [_, _]) rfl rfl ag_42 sz_42 (by repeat (first | exact List.Mem.head _ | apply List.Mem.tail)) (by rfl)) rfl ?_
                  refine JA_takeL (i := 14) rfl rfl (by kernel_rfl) (by kernel_rfl) (by kernel_rfl) rfl rfl (by repeat (first | exact Pk.nil _ | (refine Pk.pick (by repeat (first | exact Rm.here _ | apply Rm.there)) ?_))) (wn_g rfl rfl rfl rfl) (rv_agg (cs := [_, _]) rfl rfl ag_42 sz_42 (by repeat (first | exact List.Mem.head _ | apply List.Mem.tail)) (by rfl)) rfl ?_
                  refine JA_takeP (i := 15) rfl rfl (by kernel_rfl) (by kernel_rfl) (by kernel_rfl) rfl (wn_g rfl rfl rfl rfl) (rp2 rfl rfl (fun ρ hx hy w => ex_neq42 rfl hx hy)) rfl ?_
                  refine JA_decF (by have := hpr.1 (by omega); rw [this]; simp) ?_
                  refine JA_takeP (i := 16) rfl rfl (by kernel_rfl) (by kernel_rfl) (by kernel_rfl) rfl (wn0 rfl) (rp_pickT rfl rfl rfl) rfl ?_
                  refine JA_takeP (i := 17) rfl rfl (by kernel_rfl) (by kernel_rfl) (by kernel_rfl) rfl (wn0 rfl) (rp_move rfl rfl) rfl ?_
                  refine JA_takeP (i := 18) rfl rfl (by kernel_rfl) (by kernel_rfl) (by kernel_rfl) rfl (wn_g rfl rfl rfl rfl) (rp_move rfl rfl) rfl ?_
                  refine JA_takeP (i := 19) rfl rfl (by kernel_rfl) (by kernel_rfl) (by kernel_rfl) rfl (wn_g rfl rfl rfl rfl) (rp_move rfl rfl) rfl ?_
                  refine JA_off (i := 20) rfl rfl (by kernel_rfl) (by kernel_rfl) (by kernel_rfl) rfl (wn_g rfl rfl rfl rfl) rfl ?_
                  refine JA_offL (i := 21) rfl rfl (by kernel_rfl) (by kernel_rfl) (by kernel_rfl) rfl (by repeat (first | exact Pk.nil _ | (refine Pk.pick (by repeat (first | exact Rm.here _ | apply Rm.there)) ?_))) (wn_g rfl rfl rfl rfl) rfl ?_
                  refine JA_off (i := 22) rfl rfl (by kernel_rfl) (by kernel_rfl) (by kernel_rfl) rfl (wn_g rfl rfl rfl rfl) rfl ?_
                  refine JA_offL (i := 23) rfl rfl (by kernel_rfl) (by kernel_rfl) (by kernel_rfl) rfl (by repeat (first | exact Pk.nil _ | (refine Pk.pick (by repeat (first | exact Rm.here _ | apply Rm.there)) ?_))) (wn_g rfl rfl rfl rfl) rfl ?_
                  refine JA_off (i := 24) rfl rfl (by kernel_rfl) (by kernel_rfl) (by kernel_rfl) rfl (wn_g rfl rfl rfl rfl) rfl ?_
                  refine JA_off (i := 25) rfl rfl (by kernel_rfl) (by kernel_rfl) (by kernel_rfl) rfl (wn_g rfl rfl rfl rfl) rfl ?_
                  refine JA_offL (i := 26) rfl rfl (by kernel_rfl) (by kernel_rfl) (by kernel_rfl) rfl (by repeat (first | exact Pk.nil _ | (refine Pk.pick (by repeat (first | exact Rm.here _ | apply Rm.there)) ?_))) (wn_g rfl rfl rfl rfl) rfl ?_
                  refine JA_off (i := 27) rfl rfl (by kernel_rfl) (by kernel_rfl) (by kernel_rfl) rfl (wn_g rfl rfl rfl rfl) rfl ?_
                  refine JA_offL (i := 28) rfl rfl (by kernel_rfl) (by kernel_rfl) (by kernel_rfl) rfl (by repeat (first | exact Pk.nil _ | (refine Pk.pick (by repeat (first | exact Rm.here _ | apply Rm.there)) ?_))) (wn_g rfl rfl rfl rfl) rfl ?_
                  refine JA_off (i := 29) rfl rfl (by kernel_rfl) (by kernel_rfl) (by kernel_rfl) rfl (wn_g rfl rfl rfl rfl) rfl ?_
                  refine JA_off (i := 30) rfl rfl (by kernel_rfl) (by kernel_rfl) (by kernel_rfl) rfl (wn_g rfl rfl rfl rfl) rfl ?_
                  refine JA_takeP (i := 31) rfl rfl (by kernel_rfl) (by kernel_rfl) (by kernel_rfl) rfl (wn_g rfl rfl rfl rfl) (rp_pickF rfl rfl rfl) rfl ?_
                  refine JA_takeP (i := 32) rfl rfl (by kernel_rfl) (by kernel_rfl) (by kernel_rfl) rfl (wn0 rfl) (rp_pickF rfl rfl rfl) rfl ?_
                  refine JA_done (by kernel_rfl) ?_
                  refine JQ_then_n ?_
                  refine J_no rfl rfl ?_
                  refine J_skip ?_
                  refine JQ_block_n ?_
                  refine JQ_then_n ?_
                  refine J_keep (l' := [(7, _), (9, _), (11, _), (12, _), (14, _), (15, _)]) ⟨rfl, rfl, rfl, rfl, rfl, rfl, trivial⟩ ?_
                  refine J_reg ?_
                  refine JL_val rfl (wn0 rfl) (RP.rv (rp_move rfl rfl)) rfl ?_
                  refine JL_val rfl (wn0 rfl) (RP.rv (rp2 rfl rfl (fun ρ hx hy w => ex_add rfl hx hy (by omega)))) rfl ?_
                  refine JL_val rfl (wn0 rfl) (RP.rv (rp_assign rfl rfl)) rfl ?_
                  refine JL_nil ?_
                  have e1 : smT pb tb (i + 1) = smT pb tb i + o.1 * (720720 / o.2) := by rw [smT_succ pb tb i hlt, hr, hop]; rfl
                  exact JQ_round (i + 1) ⟨by omega, by rw [e1]; omega, by rw [e1]; omega⟩ (by omega) ⟨rfl, rfl, rfl, rfl, (by rw [e1]; rfl), (congrArg some (by go_num)), trivial⟩ (by repeat (first | exact Pk.nil _ | (refine Pk.pick (by repeat (first | exact Rm.here _ | apply Rm.there)) ?_)))
                · refine JA_takeP (i := 12) rfl rfl (by kernel_rfl) (by kernel_rfl) (by kernel_rfl) rfl (wn0 rfl) (rp_move rfl rfl) rfl ?_
                  refine JA_offL (i := 13) rfl rfl (by kernel_rfl) (by kernel_rfl) (by kernel_rfl) rfl (by repeat (first | exact Pk.nil _ | (refine Pk.pick (by repeat (first | exact Rm.here _ | apply Rm.there)) ?_))) (wn_g rfl rfl rfl rfl) rfl ?_
                  refine JA_offL (i := 14) rfl rfl (by kernel_rfl) (by kernel_rfl) (by kernel_rfl) rfl (by repeat (first | exact Pk.nil _ | (refine Pk.pick (by repeat (first | exact Rm.here _ | apply Rm.there)) ?_))) (wn_g rfl rfl rfl rfl) rfl ?_
                  refine JA_off (i := 15) rfl rfl (by kernel_rfl) (by kernel_rfl) (by kernel_rfl) rfl (wn_g rfl rfl rfl rfl) rfl ?_
                  refine JA_takeP (i := 16) rfl rfl (by kernel_rfl) (by kernel_rfl) (by kernel_rfl) rfl (wn0 rfl) (rp_pickF rfl rfl rfl) rfl ?_
                  refine JA_takeP (i := 17) rfl rfl (by kernel_rfl) (by kernel_rfl) (by kernel_rfl) rfl (wn0 rfl) (rp_move rfl rfl) rfl ?_
                  refine JA_takeP (i := 18) rfl rfl (by kernel_rfl) (by kernel_rfl) (by kernel_rfl) rfl (wn_g rfl rfl rfl rfl) (rp_move rfl rfl) rfl ?_
                  refine JA_takeP (i := 19) rfl rfl (by kernel_rfl) (by kernel_rfl) (by kernel_rfl) rfl (wn_g rfl rfl rfl rfl) (rp_move rfl rfl) rfl ?_
                  refine JA_off (i := 20) rfl rfl (by kernel_rfl) (by kernel_rfl) (by kernel_rfl) rfl (wn_g rfl rfl rfl rfl) rfl ?_
                  refine JA_offL (i := 21) rfl rfl (by kernel_rfl) (by kernel_rfl) (by kernel_rfl) rfl (by repeat (first | exact Pk.nil _ | (refine Pk.pick (by repeat (first | exact Rm.here _ | apply Rm.there)) ?_))) (wn_g rfl rfl rfl rfl) rfl ?_
                  refine JA_off (i := 22) rfl rfl (by kernel_rfl) (by kernel_rfl) (by kernel_rfl) rfl (wn_g rfl rfl rfl rfl) rfl ?_
                  refine JA_offL (i := 23) rfl rfl (by kernel_rfl) (by kernel_rfl) (by kernel_rfl) rfl (by repeat (first | exact Pk.nil _ | (refine Pk.pick (by repeat (first | exact Rm.here _ | apply Rm.there)) ?_))) (wn_g rfl rfl rfl rfl) rfl ?_
                  refine JA_off (i := 24) rfl rfl (by kernel_rfl) (by kernel_rfl) (by kernel_rfl) rfl (wn_g rfl rfl rfl rfl) rfl ?_
                  refine JA_off (i := 25) rfl rfl (by kernel_rfl) (by kernel_rfl) (by kernel_rfl) rfl (wn_g rfl rfl rfl rfl) rfl ?_
                  refine JA_offL (i := 26) rfl rfl (by kernel_rfl) (by kernel_rfl) (by kernel_rfl) rfl (by repeat (first | exact Pk.nil _ | (refine Pk.pick (by repeat (first | exact Rm.here _ | apply Rm.there)) ?_))) (wn_g rfl rfl rfl rfl) rfl ?_
                  refine JA_off (i := 27) rfl rfl (by kernel_rfl) (by kernel_rfl) (by kernel_rfl) rfl (wn_g rfl rfl rfl rfl) rfl ?_
                  refine JA_offL (i := 28) rfl rfl (by kernel_rfl) (by kernel_rfl) (by kernel_rfl) rfl (by repeat (first | exact Pk.nil _ | (refine Pk.pick (by repeat (first | exact Rm.here _ | apply Rm.there)) ?_))) (wn_g rfl rfl rfl rfl) rfl ?_
                  refine JA_off (i := 29) rfl rfl (by kernel_rfl) (by kernel_rfl) (by kernel_rfl) rfl (wn_g rfl rfl rfl rfl) rfl ?_
                  refine JA_off (i := 30) rfl rfl (by kernel_rfl) (by kernel_rfl) (by kernel_rfl) rfl (wn_g rfl rfl rfl rfl) rfl ?_
                  refine JA_takeP (i := 31) rfl rfl (by kernel_rfl) (by kernel_rfl) (by kernel_rfl) rfl (wn_g rfl rfl rfl rfl) (rp_pickF rfl rfl rfl) rfl ?_
                  refine JA_takeP (i := 32) rfl rfl (by kernel_rfl) (by kernel_rfl) (by kernel_rfl) rfl (wn0 rfl) (rp_pickF rfl rfl rfl) rfl ?_
                  refine JA_done (by kernel_rfl) ?_
                  refine JQ_then_n ?_
                  refine J_no rfl rfl ?_
                  refine J_skip ?_
                  refine JQ_block_n ?_
                  refine JQ_then_n ?_
                  refine J_keep (l' := [(7, _), (9, _), (11, _), (12, _), (14, _), (15, _)]) ⟨rfl, rfl, rfl, rfl, rfl, rfl, trivial⟩ ?_
                  refine J_reg ?_
                  refine JL_val rfl (wn0 rfl) (RP.rv (rp_move rfl rfl)) rfl ?_
                  refine JL_val rfl (wn0 rfl) (RP.rv (rp2 rfl rfl (fun ρ hx hy w => ex_add rfl hx hy (by omega)))) rfl ?_
                  refine JL_val rfl (wn0 rfl) (RP.rv (rp_assign rfl rfl)) rfl ?_
                  refine JL_nil ?_
                  have e1 : smT pb tb (i + 1) = smT pb tb i + o.1 * (720720 / o.2) := by rw [smT_succ pb tb i hlt, hr, hop]; rfl
                  exact JQ_round (i + 1) ⟨by omega, by rw [e1]; omega, by rw [e1]; omega⟩ (by omega) ⟨rfl, rfl, rfl, rfl, (by rw [e1]; rfl), (congrArg some (by go_num)), trivial⟩ (by repeat (first | exact Pk.nil _ | (refine Pk.pick (by repeat (first | exact Rm.here _ | apply Rm.there)) ?_)))
              · have y1 : 0 ≤ o.1 * o'.2 ∧ o.1 * o'.2 ≤ 16000000 * 16 := ⟨Int.mul_nonneg o1.1 (by omega), Int.mul_le_mul o1.2 o2'.2 (by omega) (by omega)⟩
                have y2 : 0 ≤ o'.1 * o.2 ∧ o'.1 * o.2 ≤ 16000000 * 16 := ⟨Int.mul_nonneg o1'.1 (by omega), Int.mul_le_mul o1'.2 o2.2 (by omega) (by omega)⟩
                refine J_keep (l' := [(7, _), (9, _), (11, _), (12, _), (14, _), (15, _), (16, _), (17, _)]) ⟨rfl, rfl, rfl, rfl, rfl, rfl, rfl, rfl, trivial⟩ ?_
                refine J_draw [4, 10, 13, 14, 21, 23, 26, 28] (by kernel_rfl) ?_
                refine JA_takeP (i := 0) rfl rfl (by kernel_rfl) (by kernel_rfl) (by kernel_rfl) rfl (wn0 rfl) (rp_move rfl rfl) rfl ?_
                refine JA_takeP (i := 1) rfl rfl (by kernel_rfl) (by kernel_rfl) (by kernel_rfl) rfl (wn0 rfl) (rp_move rfl rfl) rfl ?_
                refine JA_takeP (i := 2) rfl rfl (by kernel_rfl) (by kernel_rfl) (by kernel_rfl) rfl (wn0 rfl) (rp2 rfl rfl (fun ρ hx hy w => ex_indexI (k := i) rfl hx hy rfl Try.underlying45 sz_58 (by omega))) rfl ?_
                refine JA_takeP (i := 3) rfl rfl (by kernel_rfl) (by kernel_rfl) (by kernel_rfl) rfl (wn0 rfl) (rp_fieldE (i' := 1) rfl rfl fa_58_1 rfl) rfl ?_
                refine JA_takeL (i := 4) rfl rfl (by kernel_rfl) (by kernel_rfl) (by kernel_rfl) rfl rfl (by repeat (first | exact Pk.nil _ | (refine Pk.pick (by repeat (first | exact Rm.here _ | apply Rm.there)) ?_))) (wn0 rfl) (rv_ownE (k := 8) (j := i) EW rfl rfl ag_3 (by repeat (first | exact List.Mem.head _ | apply List.Mem.tail)) (by omega) (by omega) (by rw [hr]; rfl)) rfl ?_
                refine JA_takeP (i := 5) rfl rfl (by kernel_rfl) (by kernel_rfl) (by kernel_rfl) rfl (wn0 rfl) (rp_move rfl rfl) rfl ?_
                refine JA_takeP (i := 6) rfl rfl (by kernel_rfl) (by kernel_rfl) (by kernel_rfl) rfl (wn0 rfl) (rp_move rfl rfl) rfl ?_
                refine JA_takeP (i := 7) rfl rfl (by kernel_rfl) (by kernel_rfl) (by kernel_rfl) rfl (wn0 rfl) (rp2 rfl rfl (fun ρ hx hy w => ex_sub rfl hx hy (by omega))) rfl ?_
                refine JA_takeP (i := 8) rfl rfl (by kernel_rfl) (by kernel_rfl) (by kernel_rfl) rfl (wn0 rfl) (rp2 rfl rfl (fun ρ hx hy w => ex_indexI (k := i - 1) rfl hx hy (by omega) Try.underlying45 sz_58 (by omega))) rfl ?_
                refine JA_takeP (i := 9) rfl rfl (by kernel_rfl) (by kernel_rfl) (by kernel_rfl) rfl (wn0 rfl) (rp_fieldE (i' := 1) rfl rfl fa_58_1 rfl) rfl ?_
                refine JA_takeL (i := 10) rfl rfl (by kernel_rfl) (by kernel_rfl) (by kernel_rfl) rfl rfl (by repeat (first | exact Pk.nil _ | (refine Pk.pick (by repeat (first | exact Rm.here _ | apply Rm.there)) ?_))) (wn0 rfl) (rv_ownE (k := 8) (j := i - 1) EW rfl rfl ag_3 (by repeat (first | exact List.Mem.head _ | apply List.Mem.tail)) (by omega) (by omega) (by rw [hr']; rfl)) rfl ?_
                refine JA_takeP (i := 11) rfl rfl (by kernel_rfl) (by kernel_rfl) (by kernel_rfl) rfl (wn0 rfl) (rp2 rfl rfl (fun ρ hx hy w => ex_eqlD rfl hx hy)) rfl ?_
                refine JA_dec (fun h162 => ?_) (fun h162 => ?_)
                · refine JA_takeP (i := 12) rfl rfl (by kernel_rfl) (by kernel_rfl) (by kernel_rfl) rfl (wn0 rfl) (rp_move rfl rfl) rfl ?_
                  refine JA_takeL (i := 13) rfl rfl (by kernel_rfl) (by kernel_rfl) (by kernel_rfl) rfl rfl (by repeat (first | exact Pk.nil _ | (refine Pk.pick (by repeat (first | exact Rm.here _ | apply Rm.there)) ?_))) (wn_g rfl rfl rfl rfl) (rv_agg (cs := [_, _]) rfl rfl ag_42 sz_42 (by repeat (first | exact List.Mem.head _ | apply List.Mem.tail)) (by rfl)) rfl ?_
                  refine JA_takeL (i := 14) rfl rfl (by kernel_rfl) (by kernel_rfl) (by kernel_rfl) rfl rfl (by repeat (first | exact Pk.nil _ | (refine Pk.pick (by repeat (first | exact Rm.here _ | apply Rm.there)) ?_))) (wn_g rfl rfl rfl rfl) (rv_agg (cs := [_, _]) rfl rfl ag_42 sz_42 (by repeat (first | exact List.Mem.head _ | apply List.Mem.tail)) (by rfl)) rfl ?_
                  refine JA_takeP (i := 15) rfl rfl (by kernel_rfl) (by kernel_rfl) (by kernel_rfl) rfl (wn_g rfl rfl rfl rfl) (rp2 rfl rfl (fun ρ hx hy w => ex_neq42 rfl hx hy)) rfl ?_
                  refine JA_decF (by have := hpr.1 (by omega); rw [this]; simp) ?_
                  refine JA_takeP (i := 16) rfl rfl (by kernel_rfl) (by kernel_rfl) (by kernel_rfl) rfl (wn0 rfl) (rp_pickT rfl rfl rfl) rfl ?_
                  refine JA_takeP (i := 17) rfl rfl (by kernel_rfl) (by kernel_rfl) (by kernel_rfl) rfl (wn0 rfl) (rp_move rfl rfl) rfl ?_
                  refine JA_takeP (i := 18) rfl rfl (by kernel_rfl) (by kernel_rfl) (by kernel_rfl) rfl (wn_g rfl rfl rfl rfl) (rp_move rfl rfl) rfl ?_
                  refine JA_takeP (i := 19) rfl rfl (by kernel_rfl) (by kernel_rfl) (by kernel_rfl) rfl (wn_g rfl rfl rfl rfl) (rp_move rfl rfl) rfl ?_
                  refine JA_takeP (i := 20) rfl rfl (by kernel_rfl) (by kernel_rfl) (by kernel_rfl) rfl (wn_g rfl rfl rfl rfl) (rp_arrC (off' := 0) rfl rfl rfl ia_42_0 rfl) rfl ?_
                  refine JA_takeL (i := 21) rfl rfl (by kernel_rfl) (by kernel_rfl) (by kernel_rfl) rfl rfl (by repeat (first | exact Pk.nil _ | (refine Pk.pick (by repeat (first | exact Rm.here _ | apply Rm.there)) ?_))) (wn_g rfl rfl rfl rfl) (rv_cell rfl rfl ag_3 (by repeat (first | exact List.Mem.head _ | apply List.Mem.tail)) (by rfl)) rfl ?_
                  refine JA_takeP (i := 22) rfl rfl (by kernel_rfl) (by kernel_rfl) (by kernel_rfl) rfl (wn_g rfl rfl rfl rfl) (rp_arrC (off' := 1) rfl rfl rfl ia_42_1 rfl) rfl ?_
                  refine JA_takeL (i := 23) rfl rfl (by kernel_rfl) (by kernel_rfl) (by kernel_rfl) rfl rfl (by repeat (first | exact Pk.nil _ | (refine Pk.pick (by repeat (first | exact Rm.here _ | apply Rm.there)) ?_))) (wn_g rfl rfl rfl rfl) (rv_cell rfl rfl ag_3 (by repeat (first | exact List.Mem.head _ | apply List.Mem.tail)) (by rfl)) rfl ?_
                  refine JA_takeP (i := 24) rfl rfl (by kernel_rfl) (by kernel_rfl) (by kernel_rfl) rfl (wn_g rfl rfl rfl rfl) (rp2 rfl rfl (fun ρ hx hy w => ex_mul rfl hx hy (by omega))) rfl ?_
                  refine JA_takeP (i := 25) rfl rfl (by kernel_rfl) (by kernel_rfl) (by kernel_rfl) rfl (wn_g rfl rfl rfl rfl) (rp_arrC (off' := 0) rfl rfl rfl ia_42_0 rfl) rfl ?_
                  refine JA_takeL (i := 26) rfl rfl (by kernel_rfl) (by kernel_rfl) (by kernel_rfl) rfl rfl (by repeat (first | exact Pk.nil _ | (refine Pk.pick (by repeat (first | exact Rm.here _ | apply Rm.there)) ?_))) (wn_g rfl rfl rfl rfl) (rv_cell rfl rfl ag_3 (by repeat (first | exact List.Mem.head _ | apply List.Mem.tail)) (by rfl)) rfl ?_
                  refine JA_takeP (i := 27) rfl rfl (by kernel_rfl) (by kernel_rfl) (by kernel_rfl) rfl (wn_g rfl rfl rfl rfl) (rp_arrC (off' := 1) rfl rfl rfl ia_42_1 rfl) rfl ?_
                  refine JA_takeL (i := 28) rfl rfl (by kernel_rfl) (by kernel_rfl) (by kernel_rfl) rfl rfl (by repeat (first | exact Pk.nil _ | (refine Pk.pick (by repeat (first | exact Rm.here _ | apply Rm.there)) ?_))) (wn_g rfl rfl rfl rfl) (rv_cell rfl rfl ag_3 (by repeat (first | exact List.Mem.head _ | apply List.Mem.tail)) (by rfl)) rfl ?_
                  refine JA_takeP (i := 29) rfl rfl (by kernel_rfl) (by kernel_rfl) (by kernel_rfl) rfl (wn_g rfl rfl rfl rfl) (rp2 rfl rfl (fun ρ hx hy w => ex_mul rfl hx hy (by omega))) rfl ?_
                  refine JA_takeP (i := 30) rfl rfl (by kernel_rfl) (by kernel_rfl) (by kernel_rfl) rfl (wn_g rfl rfl rfl rfl) (rp2 rfl rfl (fun ρ hx hy w => ex_gtrD rfl hx hy)) rfl ?_
                  refine JA_decF (by have := hpr.2 rfl; omega) ?_
                  refine JA_takeP (i := 31) rfl rfl (by kernel_rfl) (by kernel_rfl) (by kernel_rfl) rfl (wn_g rfl rfl rfl rfl) (rp_pickT rfl rfl rfl) rfl ?_
                  refine JA_takeP (i := 32) rfl rfl (by kernel_rfl) (by kernel_rfl) (by kernel_rfl) rfl (wn0 rfl) (rp_pickF rfl rfl rfl) rfl ?_
                  refine JA_done (by kernel_rfl) ?_
                  refine JQ_then_n ?_
                  refine J_no rfl rfl ?_
                  refine J_skip ?_
                  refine JQ_block_n ?_
                  refine JQ_then_n ?_
                  refine J_keep (l' := [(7, _), (9, _), (11, _), (12, _), (14, _), (15, _)]) ⟨rfl, rfl, rfl, rfl, rfl, rfl, trivial⟩ ?_
                  refine J_reg ?_
                  refine JL_val rfl (wn0 rfl) (RP.rv (rp_move rfl rfl)) rfl ?_
                  refine JL_val rfl (wn0 rfl) (RP.rv (rp2 rfl rfl (fun ρ hx hy w => ex_add rfl hx hy (by omega)))) rfl ?_
                  refine JL_val rfl (wn0 rfl) (RP.rv (rp_assign rfl rfl)) rfl ?_
                  refine JL_nil ?_
                  have e1 : smT pb tb (i + 1) = smT pb tb i + o.1 * (720720 / o.2) := by rw [smT_succ pb tb i hlt, hr, hop]; rfl
                  exact JQ_round (i + 1) ⟨by omega, by rw [e1]; omega, by rw [e1]; omega⟩ (by omega) ⟨rfl, rfl, rfl, rfl, (by rw [e1]; rfl), (congrArg some (by go_num)), trivial⟩ (by repeat (first | exact Pk.nil _ | (refine Pk.pick (by repeat (first | exact Rm.here _ | apply Rm.there)) ?_)))
                · refine JA_takeP (i := 12) rfl rfl (by kernel_rfl) (by kernel_rfl) (by kernel_rfl) rfl (wn0 rfl) (rp_move rfl rfl) rfl ?_
                  refine JA_offL (i := 13) rfl rfl (by kernel_rfl) (by kernel_rfl) (by kernel_rfl) rfl (by repeat (first | exact Pk.nil _ | (refine Pk.pick (by repeat (first | exact Rm.here _ | apply Rm.there)) ?_))) (wn_g rfl rfl rfl rfl) rfl ?_
                  refine JA_offL (i := 14) rfl rfl (by kernel_rfl) (by kernel_rfl) (by kernel_rfl) rfl (by repeat (first | exact Pk.nil _ | (refine Pk.pick (by repeat (first | exact Rm.here _ | apply Rm.there)) ?_))) (wn_g rfl rfl rfl rfl) rfl ?_
                  refine JA_off (i := 15) rfl rfl (by kernel_rfl) (by kernel_rfl) (by kernel_rfl) rfl (wn_g rfl rfl rfl rfl) rfl ?_
                  refine JA_takeP (i := 16) rfl rfl (by kernel_rfl) (by kernel_rfl) (by kernel_rfl) rfl (wn0 rfl) (rp_pickF rfl rfl rfl) rfl ?_
                  refine JA_takeP (i := 17) rfl rfl (by kernel_rfl) (by kernel_rfl) (by kernel_rfl) rfl (wn0 rfl) (rp_move rfl rfl) rfl ?_
                  refine JA_takeP (i := 18) rfl rfl (by kernel_rfl) (by kernel_rfl) (by kernel_rfl) rfl (wn_g rfl rfl rfl rfl) (rp_move rfl rfl) rfl ?_
                  refine JA_takeP (i := 19) rfl rfl (by kernel_rfl) (by kernel_rfl) (by kernel_rfl) rfl (wn_g rfl rfl rfl rfl) (rp_move rfl rfl) rfl ?_
                  refine JA_takeP (i := 20) rfl rfl (by kernel_rfl) (by kernel_rfl) (by kernel_rfl) rfl (wn_g rfl rfl rfl rfl) (rp_arrC (off' := 0) rfl rfl rfl ia_42_0 rfl) rfl ?_
                  refine JA_takeL (i := 21) rfl rfl (by kernel_rfl) (by kernel_rfl) (by kernel_rfl) rfl rfl (by repeat (first | exact Pk.nil _ | (refine Pk.pick (by repeat (first | exact Rm.here _ | apply Rm.there)) ?_))) (wn_g rfl rfl rfl rfl) (rv_cell rfl rfl ag_3 (by repeat (first | exact List.Mem.head _ | apply List.Mem.tail)) (by rfl)) rfl ?_
                  refine JA_takeP (i := 22) rfl rfl (by kernel_rfl) (by kernel_rfl) (by kernel_rfl) rfl (wn_g rfl rfl rfl rfl) (rp_arrC (off' := 1) rfl rfl rfl ia_42_1 rfl) rfl ?_
                  refine JA_takeL (i := 23) rfl rfl (by kernel_rfl) (by kernel_rfl) (by kernel_rfl) rfl rfl (by repeat (first | exact Pk.nil _ | (refine Pk.pick (by repeat (first | exact Rm.here _ | apply Rm.there)) ?_))) (wn_g rfl rfl rfl rfl) (rv_cell rfl rfl ag_3 (by repeat (first | exact List.Mem.head _ | apply List.Mem.tail)) (by rfl)) rfl ?_
                  refine JA_takeP (i := 24) rfl rfl (by kernel_rfl) (by kernel_rfl) (by kernel_rfl) rfl (wn_g rfl rfl rfl rfl) (rp2 rfl rfl (fun ρ hx hy w => ex_mul rfl hx hy (by omega))) rfl ?_
                  refine JA_takeP (i := 25) rfl rfl (by kernel_rfl) (by kernel_rfl) (by kernel_rfl) rfl (wn_g rfl rfl rfl rfl) (rp_arrC (off' := 0) rfl rfl rfl ia_42_0 rfl) rfl ?_
                  refine JA_takeL (i := 26) rfl rfl (by kernel_rfl) (by kernel_rfl) (by kernel_rfl) rfl rfl (by repeat (first | exact Pk.nil _ | (refine Pk.pick (by repeat (first | exact Rm.here _ | apply Rm.there)) ?_))) (wn_g rfl rfl rfl rfl) (rv_cell rfl rfl ag_3 (by repeat (first | exact List.Mem.head _ | apply List.Mem.tail)) (by rfl)) rfl ?_
                  refine JA_takeP (i := 27) rfl rfl (by kernel_rfl) (by kernel_rfl) (by kernel_rfl) rfl (wn_g rfl rfl rfl rfl) (rp_arrC (off' := 1) rfl rfl rfl ia_42_1 rfl) rfl ?_
                  refine JA_takeL (i := 28) rfl rfl (by kernel_rfl) (by kernel_rfl) (by kernel_rfl) rfl rfl (by repeat (first | exact Pk.nil _ | (refine Pk.pick (by repeat (first | exact Rm.here _ | apply Rm.there)) ?_))) (wn_g rfl rfl rfl rfl) (rv_cell rfl rfl ag_3 (by repeat (first | exact List.Mem.head _ | apply List.Mem.tail)) (by rfl)) rfl ?_
                  refine JA_takeP (i := 29) rfl rfl (by kernel_rfl) (by kernel_rfl) (by kernel_rfl) rfl (wn_g rfl rfl rfl rfl) (rp2 rfl rfl (fun ρ hx hy w => ex_mul rfl hx hy (by omega))) rfl ?_
                  refine JA_takeP (i := 30) rfl rfl (by kernel_rfl) (by kernel_rfl) (by kernel_rfl) rfl (wn_g rfl rfl rfl rfl) (rp2 rfl rfl (fun ρ hx hy w => ex_gtrD rfl hx hy)) rfl ?_
                  refine JA_decF (by have := hpr.2 rfl; omega) ?_
                  refine JA_takeP (i := 31) rfl rfl (by kernel_rfl) (by kernel_rfl) (by kernel_rfl) rfl (wn_g rfl rfl rfl rfl) (rp_pickT rfl rfl rfl) rfl ?_
                  refine JA_takeP (i := 32) rfl rfl (by kernel_rfl) (by kernel_rfl) (by kernel_rfl) rfl (wn0 rfl) (rp_pickF rfl rfl rfl) rfl ?_
                  refine JA_done (by kernel_rfl) ?_
                  refine JQ_then_n ?_
                  refine J_no rfl rfl ?_
                  refine J_skip ?_
                  refine JQ_block_n ?_
                  refine JQ_then_n ?_
                  refine J_keep (l' := [(7, _), (9, _), (11, _), (12, _), (14, _), (15, _)]) ⟨rfl, rfl, rfl, rfl, rfl, rfl, trivial⟩ ?_
                  refine J_reg ?_
                  refine JL_val rfl (wn0 rfl) (RP.rv (rp_move rfl rfl)) rfl ?_
                  refine JL_val rfl (wn0 rfl) (RP.rv (rp2 rfl rfl (fun ρ hx hy w => ex_add rfl hx hy (by omega)))) rfl ?_
                  refine JL_val rfl (wn0 rfl) (RP.rv (rp_assign rfl rfl)) rfl ?_
                  refine JL_nil ?_
                  have e1 : smT pb tb (i + 1) = smT pb tb i + o.1 * (720720 / o.2) := by rw [smT_succ pb tb i hlt, hr, hop]; rfl
                  exact JQ_round (i + 1) ⟨by omega, by rw [e1]; omega, by rw [e1]; omega⟩ (by omega) ⟨rfl, rfl, rfl, rfl, (by rw [e1]; rfl), (congrArg some (by go_num)), trivial⟩ (by repeat (first | exact Pk.nil _ | (refine Pk.pick (by repeat (first | exact Rm.here _ | apply Rm.there)) ?_)))
          · refine JL_nil ?_
            refine JQ_then_n ?_
            refine J_no rfl rfl ?_
            refine J_exit ?_
            refine JQ_then_x ?_
            refine JQ_then_x ?_
            refine JQ_block_y rfl ?_
            refine JQ_then_n ?_
            refine J_seq ?_
            obtain rfl : i = tb.length := by omega
            have hsm := hok.sum
            have e2 : smT pb tb tb.length = wt * 720720 := by unfold smT; rw [List.take_length, hsm, hwt]
            have hsb := sum_bd (pz.take T.toNat) (fun x hx => hpv.2 x (List.mem_of_mem_take hx))
            have htl : (pz.take T.toNat).length ≤ 16 := by rw [List.length_take]; omega
            rw [hwt] at hsb
            rw [e2]
            refine J_keep (l' := [(12, _), (14, _)]) ⟨rfl, rfl, trivial⟩ ?_
            refine J_reg ?_
            refine JL_val rfl (wn0 rfl) (RP.rv (rp_move rfl rfl)) rfl ?_
            refine JL_val rfl (wn0 rfl) (RP.rv (rp_move rfl rfl)) rfl ?_
            refine JL_val rfl (wn0 rfl) (RP.rv (rp2 rfl rfl (fun ρ hx hy w => ex_mul rfl hx hy (by omega)))) rfl ?_
            refine JL_val rfl (wn0 rfl) (RP.rv (rp2 rfl rfl (fun ρ hx hy w => ex_eqlD rfl hx hy))) rfl ?_
            refine JL_decT rfl ?_
            refine JL_val rfl (wn0 rfl) (RP.rv (rp_move rfl rfl)) rfl ?_
            refine JL_op (wn_g rfl rfl rfl rfl) (ow_callB (ec_fn rfl rfl cf_14) rfl rfl (fun w hw => awake14 w)) (fun _ _ => ?_)
            refine JL_val rfl (wn0 rfl) (RP.rv (rp_pickT rfl rfl rfl)) rfl ?_
            refine JL_val rfl (wn0 rfl) (RP.rv (rp_assign rfl rfl)) rfl ?_
            refine JL_nil ?_
            refine JQ_then_n ?_
            refine J_ret ?_
            refine JR_one rfl (rr_tmp rfl) ?_
            intro w' hw
            exact ⟨rfl, hw.bel⟩
end Go.Proofs.Ytlfbbofcnonhdaa
