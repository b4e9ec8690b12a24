/- LeagueMeetings: the walk. -/
import Derived.Test.YtlfbbofcnonhdaaPc
import Derived.Test.YtlfbbofcnonhdaaPb
import Derived.Test.YtlfbbofcnonhdaaEa
namespace Go.Proofs.Ytlfbbofcnonhdaa
open Go Go.RowKit Go.Proofs

def MeetOk (l : List Re) (t : List Rw) : Prop := ∀ (i : Nat) (h1 : 1 ≤ i) (hi : i < t.length) (_ : (t[i - 1]'(by omega)).wins = (t[i]'hi).wins)
    (_ : ∀ h : 2 ≤ i, (t[i - 2]'(by omega)).wins ≠ (t[i - 1]'(by omega)).wins) (_ : ∀ h : i + 1 < t.length, (t[i + 1]'h).wins ≠ (t[i - 1]'(by omega)).wins),
    (0 ≤ mwF l (t[i - 1]'(by omega)).team (t[i]'hi).team → mwF l (t[i - 1]'(by omega)).team (t[i]'hi).team = (t[i - 1]'(by omega)).team) ∧
    (mwF l (t[i - 1]'(by omega)).team (t[i]'hi).team < 0 → 0 < (t[i - 1]'(by omega)).draws → 0 < (t[i]'hi).draws → (t[i - 1]'(by omega)).len * (t[i]'hi).draws ≤ (t[i]'hi).len * (t[i - 1]'(by omega)).draws)
theorem meet_all {T : Int} {l : List Re} (hc : chkE T l = 0) : MeetOk l (tblP T l) := fun i h1 hi hw h2 h3 => meet_ok hc i h1 hi hw h2 h3
theorem meet_rows {T : Int} {l : List Re} (hc : chkE T l = 0) : ∀ r ∈ tblP T l, (0 ≤ r.draws ∧ r.draws ≤ 600) ∧ (0 ≤ r.len ∧ r.len ≤ 60000000) := by
  intro r hr
  obtain ⟨i, hi, rfl⟩ := List.mem_iff_getElem.1 hr
  obtain ⟨_, q, -⟩ := tbl_get hc i hi
  have h := vl_of hc
  have hb := rowN_bd l ((ordP l T.toNat).flatten[i]) h.b
  have h1 := congrArg Rw.draws q
  have h2 := congrArg Rw.len q
  have hn := h.n
  have h1' : ((tblP T l)[i]'hi).draws = _ := h1
  have h2' : ((tblP T l)[i]'hi).len = _ := h2
  rw [h1', h2']
  show (0 ≤ (rowN l _).draws ∧ (rowN l _).draws ≤ 600) ∧ (0 ≤ (rowN l _).len ∧ (rowN l _).len ≤ 60000000)
  omega
set_option maxRecDepth 100000 in
set_option maxHeartbeats 4000000 in
theorem Meetings_law (T : Int) (A : Option Addr) (n c : Nat) (w : World) (h1 : RowP 6 eR W6 w A n c) : Calls Try.prog 7 #[.int .i64 T, .slice A n c] w (Back (.bool true) w) := by
  refine J_enter (fun _ => False) (vs := [.int .i64 T, .slice A n c]) (k := 158) (l := [(0, .int .i64 T), (1, .slice A n c)]) Try.func7 rfl rfl Try.ntmps7 rfl rfl (Wd.start _) ?_
  refine J_seq ?_
  refine J_reg ?_
  refine JL_val rfl (wn0 rfl) (RP.rv (rp_assign rfl rfl)) rfl ?_
  refine JL_nil ?_
  refine JQ_then_n ?_
  refine J_seq ?_
  refine J_seq ?_
  refine J_reg ?_
  refine JL_val rfl (wn0 rfl) (RP.rv (rp_move rfl rfl)) rfl ?_
  refine JL_val rfl (wn0 rfl) (RP.rv (rp1 rfl (fun ρ hx w => ex_len (A := _) (c := _) rfl Try.underlying44 hx))) rfl ?_
  refine JL_val rfl (wn0 rfl) (RP.rv (rp2 rfl rfl (fun ρ hx hy w => ex_gtrD rfl hx hy))) rfl ?_
  refine JL_dec (fun h15 => ?_) (fun h15 => ?_)
  · refine JL_nil ?_
    refine JQ_then_n ?_
    refine J_yes rfl rfl ?_
    refine J_seq ?_
    refine J_keep (l' := []) trivial ?_
    refine J_reg ?_
    refine JL_op (wn0 rfl) (ow_callB (ec_fn rfl rfl cf_14) rfl rfl (fun w hw => awake14 w)) (fun _ _ => ?_)
    refine JL_val rfl (wn0 rfl) (RP.rv (rp_assign rfl rfl)) rfl ?_
    refine JL_nil ?_
    refine JQ_then_n ?_
    refine J_ret ?_
    refine JQ_then_r ?_
    refine JR_one rfl (rr_tmp rfl) ?_
    intro w' hw
    exact ⟨rfl, hw.bel⟩
  · refine JL_nil ?_
    refine JQ_then_n ?_
    refine J_no rfl rfl ?_
    refine J_skip ?_
    refine JQ_then_n ?_
    refine J_seq ?_
    obtain ⟨l, rfl, hrow, hw6⟩ := h1 (by omega)
    obtain ⟨tb, htb⟩ : ∃ L, tblP T l = L := ⟨_, rfl⟩
    refine J_keep (l' := [(0, _), (1, _)]) ⟨rfl, rfl, trivial⟩ ?_
    refine J_reg ?_
    refine JL_val rfl (wn0 rfl) (RP.rv (rp_move rfl rfl)) rfl ?_
    refine JL_val rfl (wn0 rfl) (RP.rv (rp_move rfl rfl)) rfl ?_
    refine JL_opS (wn0 rfl) (ow_callSE (L := tb) (ec_fn rfl rfl cf_25) rfl rfl (fun w hw => by rw [← htb]; exact Table25 T l _ w (hrow.up ER hw.bel) hw6)) (fun A20 c20 => ?_)
    refine JL_val rfl (wn0 rfl) (RP.rv (rp_move rfl rfl)) rfl ?_
    refine JL_val rfl (wn0 rfl) (RP.rv (rp_run1 (f := fun u => Instr.extract u 0) (fun _ => rfl) rfl (fun _ => rfl))) rfl ?_
    refine JL_val rfl (wn0 rfl) (RP.rv (rp_run1 (f := fun u => Instr.extract u 1) (fun _ => rfl) rfl (fun _ => rfl))) rfl ?_
    refine JL_val rfl (wn0 rfl) (RP.rv (rp_assign rfl rfl)) rfl ?_
    refine JL_val rfl (wn0 rfl) (RP.rv (rp_assign rfl rfl)) rfl ?_
    refine JL_nil ?_
    refine JQ_then_n ?_
    refine J_seq ?_
    refine J_seq ?_
    refine J_keep (l' := [(1, _), (5, _), (6, _)]) ⟨rfl, rfl, rfl, trivial⟩ ?_
    refine J_reg ?_
    refine JL_val rfl (wn0 rfl) (RP.rv (rp_move rfl rfl)) rfl ?_
    refine JL_val rfl (wn0 rfl) (RP.rv (rp2 rfl rfl (fun ρ hx hy w => ex_neq29 rfl hx hy))) rfl ?_
    refine JL_dec (fun h24 => ?_) (fun h24 => ?_)
    · refine JL_nil ?_
      refine JQ_then_n ?_
      refine J_yes rfl rfl ?_
      refine J_seq ?_
      refine J_keep (l' := []) trivial ?_
      refine J_reg ?_
      refine JL_op (wn0 rfl) (ow_callB (ec_fn rfl rfl cf_14) rfl rfl (fun w hw => awake14 w)) (fun _ _ => ?_)
      refine JL_val rfl (wn0 rfl) (RP.rv (rp_assign rfl rfl)) rfl ?_
      refine JL_nil ?_
      refine JQ_then_n ?_
      refine J_ret ?_
      refine JQ_then_r ?_
      refine JR_one rfl (rr_tmp rfl) ?_
      intro w' hw
      exact ⟨rfl, hw.bel⟩
    · refine JL_nil ?_
      refine JQ_then_n ?_
      refine J_no rfl rfl ?_
      refine J_skip ?_
      refine JQ_then_n ?_
      refine J_seq ?_
      refine J_seq ?_
      have hc : chkE T l = 0 := by omega
      have hlen := tblP_len T l
      have hT := (chk_ok hc).1
      have hrb := meet_rows hc
      have hmt := meet_all hc
      rw [htb] at hlen hrb hmt
      have hlen2 := hlen.2 hc
      refine J_fact (fun hf => ?_)
      obtain ⟨g20, rfl⟩ := own_some (A := A20) (ty := 58) (k := 8) (m := tb.length) hf (by repeat (first | exact List.Mem.head _ | apply List.Mem.tail)) (by omega)
      refine J_reg ?_
      refine JL_val rfl (wn0 rfl) (RP.rv (rp_assign rfl rfl)) rfl ?_
      refine JL_nil ?_
      refine JQ_then_n ?_
      refine J_block ?_
      refine J_loop (T := Nat) (fun i => 1 ≤ i ∧ i ≤ tb.length) (fun i => [(1, .slice A l.length c), (5, .slice (some ⟨g20, 0, none⟩) tb.length c20), (7, .int .i64 (i : Nat))]) (fun i => [ownB 58 8 (some ⟨g20, 0, none⟩) tb.length c20 (tb.flatMap eW)]) (fun i => tb.length - i) 1 ⟨Nat.le_refl _, by omega⟩ ⟨rfl, rfl, rfl, trivial⟩ (by repeat (first | exact Pk.nil _ | (refine Pk.pick (by repeat (first | exact Rm.here _ | apply Rm.there)) ?_))) ?_
      rintro i ⟨hi1, hi2⟩
      refine J_seq ?_
      refine J_seq ?_
      refine J_reg ?_
      refine JL_val rfl (wn0 rfl) (RP.rv (rp_move rfl rfl)) rfl ?_
      refine JL_val rfl (wn0 rfl) (RP.rv (rp_move rfl rfl)) rfl ?_
      refine JL_val rfl (wn0 rfl) (RP.rv (rp1 rfl (fun ρ hx w => ex_len (A := _) (c := _) rfl Try.underlying45 hx))) rfl ?_
      refine JL_val rfl (wn0 rfl) (RP.rv (rp2 rfl rfl (fun ρ hx hy w => ex_lssD rfl hx hy))) rfl ?_
      refine JL_dec (fun h29 => ?_) (fun h29 => ?_)
      · refine JL_nil ?_
        refine JQ_then_n ?_
        refine J_yes rfl rfl ?_
        refine J_skip ?_
        refine JQ_then_n ?_
        refine J_seq ?_
        refine J_block ?_
        obtain ⟨ra, hra⟩ : ∃ r, tb[i - 1]'(by omega) = r := ⟨_, rfl⟩
        obtain ⟨rb, hrb'⟩ : ∃ r, tb[i]'(by omega) = r := ⟨_, rfl⟩
        refine J_cut (T := Nat × Nat) (fun q => True) (fun q => [(1, .slice A l.length c), (5, .slice (some ⟨g20, 0, none⟩) tb.length c20), (7, .int .i64 (i : Nat)), (8, .pointer (some ⟨q.1, 0, none⟩)), (9, .pointer (some ⟨q.2, 0, none⟩))]) (fun q => [cellB q.1 [.int .i64 ra.team, .int .i64 ra.place, .int .i64 ra.games, .int .i64 ra.wins, .int .i64 ra.fr, .int .i64 ra.ag, .int .i64 ra.draws, .int .i64 ra.len] 58, cellB q.2 [.int .i64 rb.team, .int .i64 rb.place, .int .i64 rb.games, .int .i64 rb.wins, .int .i64 rb.fr, .int .i64 rb.ag, .int .i64 rb.draws, .int .i64 rb.len] 58, ownB 58 8 (some ⟨g20, 0, none⟩) tb.length c20 (tb.flatMap eW)]) ?_ ?_
        · refine J_keep (l' := [(1, _), (5, _), (7, _)]) ⟨rfl, rfl, rfl, trivial⟩ ?_
          refine J_drawX [] [4, 8] [ownB 58 8 (some ⟨g20, 0, none⟩) tb.length c20 (tb.flatMap eW)] (by repeat (first | exact Pk.nil _ | (refine Pk.pick (by repeat (first | exact Rm.here _ | apply Rm.there)) ?_))) (by kernel_rfl) ?_
          refine JA_takeP (i := 0) rfl rfl (by kernel_rfl) (by kernel_rfl) (by kernel_rfl) rfl (wn0 rfl) (rp_move rfl rfl) rfl ?_
          refine JA_takeP (i := 1) rfl rfl (by kernel_rfl) (by kernel_rfl) (by kernel_rfl) rfl (wn0 rfl) (rp_move rfl rfl) rfl ?_
          refine JA_takeP (i := 2) rfl rfl (by kernel_rfl) (by kernel_rfl) (by kernel_rfl) rfl (wn0 rfl) (rp2 rfl rfl (fun ρ hx hy w => ex_sub rfl hx hy (by omega))) rfl ?_
          refine JA_takeP (i := 3) rfl rfl (by kernel_rfl) (by kernel_rfl) (by kernel_rfl) rfl (wn0 rfl) (rp2 rfl rfl (fun ρ hx hy w => ex_indexI (k := i - 1) rfl hx hy (by omega) Try.underlying45 sz_58 (by omega))) rfl ?_
          refine JA_takeX (i := 4) rfl rfl (by kernel_rfl) (by kernel_rfl) (by kernel_rfl) rfl rfl (by repeat (first | exact Pk.nil _ | (refine Pk.pick (by repeat (first | exact Rm.here _ | apply Rm.there)) ?_))) (wn0 rfl) (rv_ownaggE (j := i - 1) (cs := [_, _, _, _, _, _, _, _]) EW rfl rfl ag_58 sz_58 (by repeat (first | exact List.Mem.head _ | apply List.Mem.tail)) (by omega) (by rw [hra]; rfl)) rfl ?_
          refine JA_takeP (i := 5) rfl rfl (by kernel_rfl) (by kernel_rfl) (by kernel_rfl) rfl (wn0 rfl) (rp_move rfl rfl) rfl ?_
          refine JA_takeP (i := 6) rfl rfl (by kernel_rfl) (by kernel_rfl) (by kernel_rfl) rfl (wn0 rfl) (rp_move rfl rfl) rfl ?_
          refine JA_takeP (i := 7) rfl rfl (by kernel_rfl) (by kernel_rfl) (by kernel_rfl) rfl (wn0 rfl) (rp2 rfl rfl (fun ρ hx hy w => ex_indexI (k := i) rfl hx hy rfl Try.underlying45 sz_58 (by omega))) rfl ?_
          refine JA_takeX (i := 8) rfl rfl (by kernel_rfl) (by kernel_rfl) (by kernel_rfl) rfl rfl (by repeat (first | exact Pk.nil _ | (refine Pk.pick (by repeat (first | exact Rm.here _ | apply Rm.there)) ?_))) (wn0 rfl) (rv_ownaggE (j := i) (cs := [_, _, _, _, _, _, _, _]) EW rfl rfl ag_58 sz_58 (by repeat (first | exact List.Mem.head _ | apply List.Mem.tail)) (by omega) (by rw [hrb']; rfl)) rfl ?_
          refine JA_two (i := 9) (j := 10) (by kernel_rfl) rfl rfl (wn0 rfl) (wn0 rfl) (ow_alloc rfl rfl zv_58 rfl rfl) (ow_alloc rfl rfl zv_58 rfl rfl) trivial trivial (fun b8 hb8 => ?_) (fun b9 hb9 => ?_)
          · refine JA_one (i := 10) (by kernel_rfl) rfl (wn0 rfl) (ow_alloc rfl rfl zv_58 rfl rfl) trivial (fun b9 hb9 => ?_)
            refine JA_one (i := 11) (by kernel_rfl) rfl (wn0 rfl) (ow_store (cs := [_, _, _, _, _, _, _, _]) (vs' := [_, _, _, _, _, _, _, _]) rfl rfl rfl rfl rfl sz_58 rfl (by repeat (first | exact At.here _ | apply At.there)) (by rfl) (by rfl)) ⟨by kernel_rfl, .inr ⟨rfl, (by repeat (first | exact Pk.nil _ | (refine Pk.pick (by repeat (first | exact Rm.here _ | apply Rm.there)) ?_)))⟩⟩ (fun _ _ => ?_)
            refine JA_one (i := 12) (by kernel_rfl) rfl (wn0 rfl) (ow_store (cs := [_, _, _, _, _, _, _, _]) (vs' := [_, _, _, _, _, _, _, _]) rfl rfl rfl rfl rfl sz_58 rfl (by repeat (first | exact At.here _ | apply At.there)) (by rfl) (by rfl)) ⟨by kernel_rfl, .inr ⟨rfl, (by repeat (first | exact Pk.nil _ | (refine Pk.pick (by repeat (first | exact Rm.here _ | apply Rm.there)) ?_)))⟩⟩ (fun _ _ => ?_)
            refine JA_done (by kernel_rfl) ?_
            exact JQ_cut (b8, b9) trivial ⟨rfl, rfl, rfl, rfl, rfl, trivial⟩ (by dsimp only; repeat (first | exact Pk.nil _ | (refine Pk.pick (by repeat (first | exact Rm.here _ | apply Rm.there)) ?_)))
          · refine JA_one (i := 9) (by kernel_rfl) rfl (wn0 rfl) (ow_alloc rfl rfl zv_58 rfl rfl) trivial (fun b8 hb8 => ?_)
            refine JA_one (i := 11) (by kernel_rfl) rfl (wn0 rfl) (ow_store (cs := [_, _, _, _, _, _, _, _]) (vs' := [_, _, _, _, _, _, _, _]) rfl rfl rfl rfl rfl sz_58 rfl (by repeat (first | exact At.here _ | apply At.there)) (by rfl) (by rfl)) ⟨by kernel_rfl, .inr ⟨rfl, (by repeat (first | exact Pk.nil _ | (refine Pk.pick (by repeat (first | exact Rm.here _ | apply Rm.there)) ?_)))⟩⟩ (fun _ _ => ?_)
            refine JA_one (i := 12) (by kernel_rfl) rfl (wn0 rfl) (ow_store (cs := [_, _, _, _, _, _, _, _]) (vs' := [_, _, _, _, _, _, _, _]) rfl rfl rfl rfl rfl sz_58 rfl (by repeat (first | exact At.here _ | apply At.there)) (by rfl) (by rfl)) ⟨by kernel_rfl, .inr ⟨rfl, (by repeat (first | exact Pk.nil _ | (refine Pk.pick (by repeat (first | exact Rm.here _ | apply Rm.there)) ?_)))⟩⟩ (fun _ _ => ?_)
            refine JA_done (by kernel_rfl) ?_
            exact JQ_cut (b8, b9) trivial ⟨rfl, rfl, rfl, rfl, rfl, trivial⟩ (by dsimp only; repeat (first | exact Pk.nil _ | (refine Pk.pick (by repeat (first | exact Rm.here _ | apply Rm.there)) ?_)))
        · rintro ⟨b8, b9⟩ -
          dsimp only
          refine J_seq ?_
          refine J_cut (T := Bool) (fun t => ¬ t = true → ra.wins = rb.wins ∧ (∀ h : 2 ≤ i, (tb[i - 2]'(by omega)).wins ≠ ra.wins) ∧ (∀ h : i + 1 < tb.length, (tb[i + 1]'h).wins ≠ ra.wins)) (fun t => [(1, .slice A l.length c), (5, .slice (some ⟨g20, 0, none⟩) tb.length c20), (7, .int .i64 (i : Nat)), (8, .pointer (some ⟨b8, 0, none⟩)), (9, .pointer (some ⟨b9, 0, none⟩)), (78, .bool (decide (t = true)))]) (fun t => [cellB b8 [.int .i64 ra.team, .int .i64 ra.place, .int .i64 ra.games, .int .i64 ra.wins, .int .i64 ra.fr, .int .i64 ra.ag, .int .i64 ra.draws, .int .i64 ra.len] 58, cellB b9 [.int .i64 rb.team, .int .i64 rb.place, .int .i64 rb.games, .int .i64 rb.wins, .int .i64 rb.fr, .int .i64 rb.ag, .int .i64 rb.draws, .int .i64 rb.len] 58, ownB 58 8 (some ⟨g20, 0, none⟩) tb.length c20 (tb.flatMap eW)]) ?_ ?_
          · refine J_draw [1, 3, 14, 16, 32, 34] (by kernel_rfl) ?_
            refine JA_takeP (i := 0) rfl rfl (by kernel_rfl) (by kernel_rfl) (by kernel_rfl) rfl (wn0 rfl) (rp_fieldC (off' := 3) rfl rfl fa_58_3 rfl) rfl ?_
            refine JA_takeL (i := 1) rfl rfl (by kernel_rfl) (by kernel_rfl) (by kernel_rfl) rfl rfl (by repeat (first | exact Pk.nil _ | (refine Pk.pick (by repeat (first | exact Rm.here _ | apply Rm.there)) ?_))) (wn0 rfl) (rv_cell rfl rfl ag_3 (by repeat (first | exact List.Mem.head _ | apply List.Mem.tail)) (by rfl)) rfl ?_
            refine JA_takeP (i := 2) rfl rfl (by kernel_rfl) (by kernel_rfl) (by kernel_rfl) rfl (wn0 rfl) (rp_fieldC (off' := 3) rfl rfl fa_58_3 rfl) rfl ?_
            refine JA_takeL (i := 3) rfl rfl (by kernel_rfl) (by kernel_rfl) (by kernel_rfl) rfl rfl (by repeat (first | exact Pk.nil _ | (refine Pk.pick (by repeat (first | exact Rm.here _ | apply Rm.there)) ?_))) (wn0 rfl) (rv_cell rfl rfl ag_3 (by repeat (first | exact List.Mem.head _ | apply List.Mem.tail)) (by rfl)) rfl ?_
            refine JA_takeP (i := 4) rfl rfl (by kernel_rfl) (by kernel_rfl) (by kernel_rfl) rfl (wn0 rfl) (rp2 rfl rfl (fun ρ hx hy w => ex_neqD rfl hx hy)) rfl ?_
            refine JA_dec (fun h45 => ?_) (fun h45 => ?_)
            · refine JA_takeP (i := 5) rfl rfl (by kernel_rfl) (by kernel_rfl) (by kernel_rfl) rfl (wn0 rfl) (rp_move rfl rfl) rfl ?_
              refine JA_off (i := 6) rfl rfl (by kernel_rfl) (by kernel_rfl) (by kernel_rfl) rfl (wn_g rfl rfl rfl rfl) rfl ?_
              refine JA_off (i := 7) rfl rfl (by kernel_rfl) (by kernel_rfl) (by kernel_rfl) rfl (wn_g rfl rfl rfl rfl) rfl ?_
              refine JA_off (i := 8) rfl rfl (by kernel_rfl) (by kernel_rfl) (by kernel_rfl) rfl (wn_g rfl rfl rfl rfl) rfl ?_
              refine JA_off (i := 9) rfl rfl (by kernel_rfl) (by kernel_rfl) (by kernel_rfl) rfl (wn_u rfl rfl rfl) rfl ?_
              refine JA_off (i := 10) rfl rfl (by kernel_rfl) (by kernel_rfl) (by kernel_rfl) rfl (wn_u rfl rfl rfl) rfl ?_
              refine JA_off (i := 11) rfl rfl (by kernel_rfl) (by kernel_rfl) (by kernel_rfl) rfl (wn_u rfl rfl rfl) rfl ?_
              refine JA_off (i := 12) rfl rfl (by kernel_rfl) (by kernel_rfl) (by kernel_rfl) rfl (wn_u rfl rfl rfl) rfl ?_
              refine JA_off (i := 13) rfl rfl (by kernel_rfl) (by kernel_rfl) (by kernel_rfl) rfl (wn_u rfl rfl rfl) rfl ?_
              refine JA_offL (i := 14) rfl rfl (by kernel_rfl) (by kernel_rfl) (by kernel_rfl) rfl (by repeat (first | exact Pk.nil _ | (refine Pk.pick (by repeat (first | exact Rm.here _ | apply Rm.there)) ?_))) (wn_u rfl rfl rfl) rfl ?_
              refine JA_off (i := 15) rfl rfl (by kernel_rfl) (by kernel_rfl) (by kernel_rfl) rfl (wn_u rfl rfl rfl) rfl ?_
              refine JA_offL (i := 16) rfl rfl (by kernel_rfl) (by kernel_rfl) (by kernel_rfl) rfl (by repeat (first | exact Pk.nil _ | (refine Pk.pick (by repeat (first | exact Rm.here _ | apply Rm.there)) ?_))) (wn_u rfl rfl rfl) rfl ?_
              refine JA_off (i := 17) rfl rfl (by kernel_rfl) (by kernel_rfl) (by kernel_rfl) rfl (wn_u rfl rfl rfl) rfl ?_
              refine JA_off (i := 18) rfl rfl (by kernel_rfl) (by kernel_rfl) (by kernel_rfl) rfl (wn_g rfl rfl rfl rfl) rfl ?_
              refine JA_takeP (i := 19) rfl rfl (by kernel_rfl) (by kernel_rfl) (by kernel_rfl) rfl (wn0 rfl) (rp_pickT rfl rfl rfl) rfl ?_
              refine JA_takeP (i := 20) rfl rfl (by kernel_rfl) (by kernel_rfl) (by kernel_rfl) rfl (wn0 rfl) (rp_move rfl rfl) rfl ?_
              refine JA_off (i := 21) rfl rfl (by kernel_rfl) (by kernel_rfl) (by kernel_rfl) rfl (wn_g rfl rfl rfl rfl) rfl ?_
              refine JA_off (i := 22) rfl rfl (by kernel_rfl) (by kernel_rfl) (by kernel_rfl) rfl (wn_g rfl rfl rfl rfl) rfl ?_
              refine JA_off (i := 23) rfl rfl (by kernel_rfl) (by kernel_rfl) (by kernel_rfl) rfl (wn_g rfl rfl rfl rfl) rfl ?_
              refine JA_off (i := 24) rfl rfl (by kernel_rfl) (by kernel_rfl) (by kernel_rfl) rfl (wn_g rfl rfl rfl rfl) rfl ?_
              refine JA_off (i := 25) rfl rfl (by kernel_rfl) (by kernel_rfl) (by kernel_rfl) rfl (wn_g rfl rfl rfl rfl) rfl ?_
              refine JA_off (i := 26) rfl rfl (by kernel_rfl) (by kernel_rfl) (by kernel_rfl) rfl (wn_g rfl rfl rfl rfl) rfl ?_
              refine JA_off (i := 27) rfl rfl (by kernel_rfl) (by kernel_rfl) (by kernel_rfl) rfl (wn_u rfl rfl rfl) rfl ?_
              refine JA_off (i := 28) rfl rfl (by kernel_rfl) (by kernel_rfl) (by kernel_rfl) rfl (wn_u rfl rfl rfl) rfl ?_
              refine JA_off (i := 29) rfl rfl (by kernel_rfl) (by kernel_rfl) (by kernel_rfl) rfl (wn_u rfl rfl rfl) rfl ?_
              refine JA_off (i := 30) rfl rfl (by kernel_rfl) (by kernel_rfl) (by kernel_rfl) rfl (wn_u rfl rfl rfl) rfl ?_
              refine JA_off (i := 31) rfl rfl (by kernel_rfl) (by kernel_rfl) (by kernel_rfl) rfl (wn_u rfl rfl rfl) rfl ?_
              refine JA_offL (i := 32) rfl rfl (by kernel_rfl) (by kernel_rfl) (by kernel_rfl) rfl (by repeat (first | exact Pk.nil _ | (refine Pk.pick (by repeat (first | exact Rm.here _ | apply Rm.there)) ?_))) (wn_u rfl rfl rfl) rfl ?_
              refine JA_off (i := 33) rfl rfl (by kernel_rfl) (by kernel_rfl) (by kernel_rfl) rfl (wn_u rfl rfl rfl) rfl ?_
              refine JA_offL (i := 34) rfl rfl (by kernel_rfl) (by kernel_rfl) (by kernel_rfl) rfl (by repeat (first | exact Pk.nil _ | (refine Pk.pick (by repeat (first | exact Rm.here _ | apply Rm.there)) ?_))) (wn_u rfl rfl rfl) rfl ?_
              refine JA_off (i := 35) rfl rfl (by kernel_rfl) (by kernel_rfl) (by kernel_rfl) rfl (wn_u rfl rfl rfl) rfl ?_
              refine JA_off (i := 36) rfl rfl (by kernel_rfl) (by kernel_rfl) (by kernel_rfl) rfl (wn_g rfl rfl rfl rfl) rfl ?_
              refine JA_takeP (i := 37) rfl rfl (by kernel_rfl) (by kernel_rfl) (by kernel_rfl) rfl (wn0 rfl) (rp_pickT rfl rfl rfl) rfl ?_
              refine JA_done (by kernel_rfl) ?_
              exact JQ_cut true (fun h => absurd rfl h) ⟨rfl, rfl, rfl, rfl, rfl, rfl, trivial⟩ (by repeat (first | exact Pk.nil _ | (refine Pk.pick (by repeat (first | exact Rm.here _ | apply Rm.there)) ?_)))
            · refine JA_takeP (i := 5) rfl rfl (by kernel_rfl) (by kernel_rfl) (by kernel_rfl) rfl (wn0 rfl) (rp_move rfl rfl) rfl ?_
              refine JA_takeP (i := 6) rfl rfl (by kernel_rfl) (by kernel_rfl) (by kernel_rfl) rfl (wn_g rfl rfl rfl rfl) (rp_move rfl rfl) rfl ?_
              refine JA_takeP (i := 7) rfl rfl (by kernel_rfl) (by kernel_rfl) (by kernel_rfl) rfl (wn_g rfl rfl rfl rfl) (rp2 rfl rfl (fun ρ hx hy w => ex_gtrD rfl hx hy)) rfl ?_
              refine JA_dec (fun h48 => ?_) (fun h48 => ?_)
              · refine JA_takeP (i := 8) rfl rfl (by kernel_rfl) (by kernel_rfl) (by kernel_rfl) rfl (wn_g rfl rfl rfl rfl) (rp_move rfl rfl) rfl ?_
                refine JA_takeP (i := 9) rfl rfl (by kernel_rfl) (by kernel_rfl) (by kernel_rfl) rfl (wn_g rfl rfl rfl rfl) (rp_move rfl rfl) rfl ?_
                refine JA_takeP (i := 10) rfl rfl (by kernel_rfl) (by kernel_rfl) (by kernel_rfl) rfl (wn_g rfl rfl rfl rfl) (rp_move rfl rfl) rfl ?_
                refine JA_takeP (i := 11) rfl rfl (by kernel_rfl) (by kernel_rfl) (by kernel_rfl) rfl (wn_g rfl rfl rfl rfl) (rp2 rfl rfl (fun ρ hx hy w => ex_sub rfl hx hy (by omega))) rfl ?_
                refine JA_takeP (i := 12) rfl rfl (by kernel_rfl) (by kernel_rfl) (by kernel_rfl) rfl (wn_g rfl rfl rfl rfl) (rp2 rfl rfl (fun ρ hx hy w => ex_indexI (k := i - 2) rfl hx hy (by omega) Try.underlying45 sz_58 (by omega))) rfl ?_
                refine JA_takeP (i := 13) rfl rfl (by kernel_rfl) (by kernel_rfl) (by kernel_rfl) rfl (wn_g rfl rfl rfl rfl) (rp_fieldE (i' := 3) rfl rfl fa_58_3 rfl) rfl ?_
                refine JA_takeL (i := 14) rfl rfl (by kernel_rfl) (by kernel_rfl) (by kernel_rfl) rfl rfl (by repeat (first | exact Pk.nil _ | (refine Pk.pick (by repeat (first | exact Rm.here _ | apply Rm.there)) ?_))) (wn_g rfl rfl rfl rfl) (rv_ownE (k := 8) (j := i - 2) EW rfl rfl ag_3 (by repeat (first | exact List.Mem.head _ | apply List.Mem.tail)) (by omega) (by omega) rfl) rfl ?_
                refine JA_takeP (i := 15) rfl rfl (by kernel_rfl) (by kernel_rfl) (by kernel_rfl) rfl (wn_g rfl rfl rfl rfl) (rp_fieldC (off' := 3) rfl rfl fa_58_3 rfl) rfl ?_
                refine JA_takeL (i := 16) rfl rfl (by kernel_rfl) (by kernel_rfl) (by kernel_rfl) rfl rfl (by repeat (first | exact Pk.nil _ | (refine Pk.pick (by repeat (first | exact Rm.here _ | apply Rm.there)) ?_))) (wn_g rfl rfl rfl rfl) (rv_cell rfl rfl ag_3 (by repeat (first | exact List.Mem.head _ | apply List.Mem.tail)) (by rfl)) rfl ?_
                refine JA_takeP (i := 17) rfl rfl (by kernel_rfl) (by kernel_rfl) (by kernel_rfl) rfl (wn_g rfl rfl rfl rfl) (rp2 rfl rfl (fun ρ hx hy w => ex_eqlD rfl hx hy)) rfl ?_
                refine JA_dec (fun h58 => ?_) (fun h58 => ?_)
                · refine JA_takeP (i := 18) rfl rfl (by kernel_rfl) (by kernel_rfl) (by kernel_rfl) rfl (wn_g rfl rfl rfl rfl) (rp_pickT rfl rfl rfl) rfl ?_
                  refine JA_takeP (i := 19) rfl rfl (by kernel_rfl) (by kernel_rfl) (by kernel_rfl) rfl (wn0 rfl) (rp_pickF rfl rfl rfl) rfl ?_
                  refine JA_takeP (i := 20) rfl rfl (by kernel_rfl) (by kernel_rfl) (by kernel_rfl) rfl (wn0 rfl) (rp_move rfl rfl) rfl ?_
                  refine JA_off (i := 21) rfl rfl (by kernel_rfl) (by kernel_rfl) (by kernel_rfl) rfl (wn_g rfl rfl rfl rfl) rfl ?_
                  refine JA_off (i := 22) rfl rfl (by kernel_rfl) (by kernel_rfl) (by kernel_rfl) rfl (wn_g rfl rfl rfl rfl) rfl ?_
                  refine JA_off (i := 23) rfl rfl (by kernel_rfl) (by kernel_rfl) (by kernel_rfl) rfl (wn_g rfl rfl rfl rfl) rfl ?_
                  refine JA_off (i := 24) rfl rfl (by kernel_rfl) (by kernel_rfl) (by kernel_rfl) rfl (wn_g rfl rfl rfl rfl) rfl ?_
                  refine JA_off (i := 25) rfl rfl (by kernel_rfl) (by kernel_rfl) (by kernel_rfl) rfl (wn_g rfl rfl rfl rfl) rfl ?_
                  refine JA_off (i := 26) rfl rfl (by kernel_rfl) (by kernel_rfl) (by kernel_rfl) rfl (wn_g rfl rfl rfl rfl) rfl ?_
                  refine JA_off (i := 27) rfl rfl (by kernel_rfl) (by kernel_rfl) (by kernel_rfl) rfl (wn_u rfl rfl rfl) rfl ?_
                  refine JA_off (i := 28) rfl rfl (by kernel_rfl) (by kernel_rfl) (by kernel_rfl) rfl (wn_u rfl rfl rfl) rfl ?_
                  refine JA_off (i := 29) rfl rfl (by kernel_rfl) (by kernel_rfl) (by kernel_rfl) rfl (wn_u rfl rfl rfl) rfl ?_
                  refine JA_off (i := 30) rfl rfl (by kernel_rfl) (by kernel_rfl) (by kernel_rfl) rfl (wn_u rfl rfl rfl) rfl ?_
                  refine JA_off (i := 31) rfl rfl (by kernel_rfl) (by kernel_rfl) (by kernel_rfl) rfl (wn_u rfl rfl rfl) rfl ?_
                  refine JA_offL (i := 32) rfl rfl (by kernel_rfl) (by kernel_rfl) (by kernel_rfl) rfl (by repeat (first | exact Pk.nil _ | (refine Pk.pick (by repeat (first | exact Rm.here _ | apply Rm.there)) ?_))) (wn_u rfl rfl rfl) rfl ?_
                  refine JA_off (i := 33) rfl rfl (by kernel_rfl) (by kernel_rfl) (by kernel_rfl) rfl (wn_u rfl rfl rfl) rfl ?_
                  refine JA_offL (i := 34) rfl rfl (by kernel_rfl) (by kernel_rfl) (by kernel_rfl) rfl (by repeat (first | exact Pk.nil _ | (refine Pk.pick (by repeat (first | exact Rm.here _ | apply Rm.there)) ?_))) (wn_u rfl rfl rfl) rfl ?_
                  refine JA_off (i := 35) rfl rfl (by kernel_rfl) (by kernel_rfl) (by kernel_rfl) rfl (wn_u rfl rfl rfl) rfl ?_
                  refine JA_off (i := 36) rfl rfl (by kernel_rfl) (by kernel_rfl) (by kernel_rfl) rfl (wn_g rfl rfl rfl rfl) rfl ?_
                  refine JA_takeP (i := 37) rfl rfl (by kernel_rfl) (by kernel_rfl) (by kernel_rfl) rfl (wn0 rfl) (rp_pickT rfl rfl rfl) rfl ?_
                  refine JA_done (by kernel_rfl) ?_
                  exact JQ_cut true (fun h => absurd rfl h) ⟨rfl, rfl, rfl, rfl, rfl, rfl, trivial⟩ (by repeat (first | exact Pk.nil _ | (refine Pk.pick (by repeat (first | exact Rm.here _ | apply Rm.there)) ?_)))
                · refine JA_takeP (i := 18) rfl rfl (by kernel_rfl) (by kernel_rfl) (by kernel_rfl) rfl (wn_g rfl rfl rfl rfl) (rp_pickT rfl rfl rfl) rfl ?_
                  refine JA_takeP (i := 19) rfl rfl (by kernel_rfl) (by kernel_rfl) (by kernel_rfl) rfl (wn0 rfl) (rp_pickF rfl rfl rfl) rfl ?_
                  refine JA_takeP (i := 20) rfl rfl (by kernel_rfl) (by kernel_rfl) (by kernel_rfl) rfl (wn0 rfl) (rp_move rfl rfl) rfl ?_
                  refine JA_takeP (i := 21) rfl rfl (by kernel_rfl) (by kernel_rfl) (by kernel_rfl) rfl (wn_g rfl rfl rfl rfl) (rp_move rfl rfl) rfl ?_
                  refine JA_takeP (i := 22) rfl rfl (by kernel_rfl) (by kernel_rfl) (by kernel_rfl) rfl (wn_g rfl rfl rfl rfl) (rp2 rfl rfl (fun ρ hx hy w => ex_add rfl hx hy (by omega))) rfl ?_
                  refine JA_takeP (i := 23) rfl rfl (by kernel_rfl) (by kernel_rfl) (by kernel_rfl) rfl (wn_g rfl rfl rfl rfl) (rp_move rfl rfl) rfl ?_
                  refine JA_takeP (i := 24) rfl rfl (by kernel_rfl) (by kernel_rfl) (by kernel_rfl) rfl (wn_g rfl rfl rfl rfl) (rp1 rfl (fun ρ hx w => ex_len (A := _) (c := _) rfl Try.underlying45 hx)) rfl ?_
                  refine JA_takeP (i := 25) rfl rfl (by kernel_rfl) (by kernel_rfl) (by kernel_rfl) rfl (wn_g rfl rfl rfl rfl) (rp2 rfl rfl (fun ρ hx hy w => ex_lssD rfl hx hy)) rfl ?_
                  refine JA_dec (fun h66 => ?_) (fun h66 => ?_)
                  · refine JA_takeP (i := 26) rfl rfl (by kernel_rfl) (by kernel_rfl) (by kernel_rfl) rfl (wn_g rfl rfl rfl rfl) (rp_move rfl rfl) rfl ?_
                    refine JA_takeP (i := 27) rfl rfl (by kernel_rfl) (by kernel_rfl) (by kernel_rfl) rfl (wn_g rfl rfl rfl rfl) (rp_move rfl rfl) rfl ?_
                    refine JA_takeP (i := 28) rfl rfl (by kernel_rfl) (by kernel_rfl) (by kernel_rfl) rfl (wn_g rfl rfl rfl rfl) (rp_move rfl rfl) rfl ?_
                    refine JA_takeP (i := 29) rfl rfl (by kernel_rfl) (by kernel_rfl) (by kernel_rfl) rfl (wn_g rfl rfl rfl rfl) (rp2 rfl rfl (fun ρ hx hy w => ex_add rfl hx hy (by omega))) rfl ?_
                    refine JA_takeP (i := 30) rfl rfl (by kernel_rfl) (by kernel_rfl) (by kernel_rfl) rfl (wn_g rfl rfl rfl rfl) (rp2 rfl rfl (fun ρ hx hy w => ex_indexI (k := i + 1) rfl hx hy (by omega) Try.underlying45 sz_58 (by omega))) rfl ?_
                    refine JA_takeP (i := 31) rfl rfl (by kernel_rfl) (by kernel_rfl) (by kernel_rfl) rfl (wn_g rfl rfl rfl rfl) (rp_fieldE (i' := 3) rfl rfl fa_58_3 rfl) rfl ?_
                    refine JA_takeL (i := 32) rfl rfl (by kernel_rfl) (by kernel_rfl) (by kernel_rfl) rfl rfl (by repeat (first | exact Pk.nil _ | (refine Pk.pick (by repeat (first | exact Rm.here _ | apply Rm.there)) ?_))) (wn_g rfl rfl rfl rfl) (rv_ownE (k := 8) (j := i + 1) EW rfl rfl ag_3 (by repeat (first | exact List.Mem.head _ | apply List.Mem.tail)) (by omega) (by omega) rfl) rfl ?_
                    refine JA_takeP (i := 33) rfl rfl (by kernel_rfl) (by kernel_rfl) (by kernel_rfl) rfl (wn_g rfl rfl rfl rfl) (rp_fieldC (off' := 3) rfl rfl fa_58_3 rfl) rfl ?_
                    refine JA_takeL (i := 34) rfl rfl (by kernel_rfl) (by kernel_rfl) (by kernel_rfl) rfl rfl (by repeat (first | exact Pk.nil _ | (refine Pk.pick (by repeat (first | exact Rm.here _ | apply Rm.there)) ?_))) (wn_g rfl rfl rfl rfl) (rv_cell rfl rfl ag_3 (by repeat (first | exact List.Mem.head _ | apply List.Mem.tail)) (by rfl)) rfl ?_
                    refine JA_takeP (i := 35) rfl rfl (by kernel_rfl) (by kernel_rfl) (by kernel_rfl) rfl (wn_g rfl rfl rfl rfl) (rp2 rfl rfl (fun ρ hx hy w => ex_eqlD rfl hx hy)) rfl ?_
                    refine JA_dec (fun h76 => ?_) (fun h76 => ?_)
                    · refine JA_takeP (i := 36) rfl rfl (by kernel_rfl) (by kernel_rfl) (by kernel_rfl) rfl (wn_g rfl rfl rfl rfl) (rp_pickT rfl rfl rfl) rfl ?_
                      refine JA_takeP (i := 37) rfl rfl (by kernel_rfl) (by kernel_rfl) (by kernel_rfl) rfl (wn0 rfl) (rp_pickF rfl rfl rfl) rfl ?_
                      refine JA_done (by kernel_rfl) ?_
                      exact JQ_cut true (fun h => absurd rfl h) ⟨rfl, rfl, rfl, rfl, rfl, rfl, trivial⟩ (by repeat (first | exact Pk.nil _ | (refine Pk.pick (by repeat (first | exact Rm.here _ | apply Rm.there)) ?_)))
                    · refine JA_takeP (i := 36) rfl rfl (by kernel_rfl) (by kernel_rfl) (by kernel_rfl) rfl (wn_g rfl rfl rfl rfl) (rp_pickT rfl rfl rfl) rfl ?_
                      refine JA_takeP (i := 37) rfl rfl (by kernel_rfl) (by kernel_rfl) (by kernel_rfl) rfl (wn0 rfl) (rp_pickF rfl rfl rfl) rfl ?_
                      refine JA_done (by kernel_rfl) ?_
                      exact JQ_cut false (fun _ => ⟨(by omega), (fun h => h58), (fun h => h76)⟩) ⟨rfl, rfl, rfl, rfl, rfl, rfl, trivial⟩ (by repeat (first | exact Pk.nil _ | (refine Pk.pick (by repeat (first | exact Rm.here _ | apply Rm.there)) ?_)))
                  · refine JA_takeP (i := 26) rfl rfl (by kernel_rfl) (by kernel_rfl) (by kernel_rfl) rfl (wn_g rfl rfl rfl rfl) (rp_move rfl rfl) rfl ?_
                    refine JA_off (i := 27) rfl rfl (by kernel_rfl) (by kernel_rfl) (by kernel_rfl) rfl (wn_g rfl rfl rfl rfl) rfl ?_
                    refine JA_off (i := 28) rfl rfl (by kernel_rfl) (by kernel_rfl) (by kernel_rfl) rfl (wn_g rfl rfl rfl rfl) rfl ?_
                    refine JA_off (i := 29) rfl rfl (by kernel_rfl) (by kernel_rfl) (by kernel_rfl) rfl (wn_g rfl rfl rfl rfl) rfl ?_
                    refine JA_off (i := 30) rfl rfl (by kernel_rfl) (by kernel_rfl) (by kernel_rfl) rfl (wn_g rfl rfl rfl rfl) rfl ?_
                    refine JA_off (i := 31) rfl rfl (by kernel_rfl) (by kernel_rfl) (by kernel_rfl) rfl (wn_g rfl rfl rfl rfl) rfl ?_
                    refine JA_offL (i := 32) rfl rfl (by kernel_rfl) (by kernel_rfl) (by kernel_rfl) rfl (by repeat (first | exact Pk.nil _ | (refine Pk.pick (by repeat (first | exact Rm.here _ | apply Rm.there)) ?_))) (wn_g rfl rfl rfl rfl) rfl ?_
                    refine JA_off (i := 33) rfl rfl (by kernel_rfl) (by kernel_rfl) (by kernel_rfl) rfl (wn_g rfl rfl rfl rfl) rfl ?_
                    refine JA_offL (i := 34) rfl rfl (by kernel_rfl) (by kernel_rfl) (by kernel_rfl) rfl (by repeat (first | exact Pk.nil _ | (refine Pk.pick (by repeat (first | exact Rm.here _ | apply Rm.there)) ?_))) (wn_g rfl rfl rfl rfl) rfl ?_
                    refine JA_off (i := 35) rfl rfl (by kernel_rfl) (by kernel_rfl) (by kernel_rfl) rfl (wn_g rfl rfl rfl rfl) rfl ?_
                    refine JA_takeP (i := 36) rfl rfl (by kernel_rfl) (by kernel_rfl) (by kernel_rfl) rfl (wn_g rfl rfl rfl rfl) (rp_pickF rfl rfl rfl) rfl ?_
                    refine JA_takeP (i := 37) rfl rfl (by kernel_rfl) (by kernel_rfl) (by kernel_rfl) rfl (wn0 rfl) (rp_pickF rfl rfl rfl) rfl ?_
                    refine JA_done (by kernel_rfl) ?_
                    exact JQ_cut false (fun _ => ⟨(by omega), (fun h => h58), (fun h => by omega)⟩) ⟨rfl, rfl, rfl, rfl, rfl, rfl, trivial⟩ (by repeat (first | exact Pk.nil _ | (refine Pk.pick (by repeat (first | exact Rm.here _ | apply Rm.there)) ?_)))
              · refine JA_takeP (i := 8) rfl rfl (by kernel_rfl) (by kernel_rfl) (by kernel_rfl) rfl (wn_g rfl rfl rfl rfl) (rp_move rfl rfl) rfl ?_
                refine JA_off (i := 9) rfl rfl (by kernel_rfl) (by kernel_rfl) (by kernel_rfl) rfl (wn_g rfl rfl rfl rfl) rfl ?_
                refine JA_off (i := 10) rfl rfl (by kernel_rfl) (by kernel_rfl) (by kernel_rfl) rfl (wn_g rfl rfl rfl rfl) rfl ?_
                refine JA_off (i := 11) rfl rfl (by kernel_rfl) (by kernel_rfl) (by kernel_rfl) rfl (wn_g rfl rfl rfl rfl) rfl ?_
                refine JA_off (i := 12) rfl rfl (by kernel_rfl) (by kernel_rfl) (by kernel_rfl) rfl (wn_g rfl rfl rfl rfl) rfl ?_
                refine JA_off (i := 13) rfl rfl (by kernel_rfl) (by kernel_rfl) (by kernel_rfl) rfl (wn_g rfl rfl rfl rfl) rfl ?_
                refine JA_offL (i := 14) rfl rfl (by kernel_rfl) (by kernel_rfl) (by kernel_rfl) rfl (by repeat (first | exact Pk.nil _ | (refine Pk.pick (by repeat (first | exact Rm.here _ | apply Rm.there)) ?_))) (wn_g rfl rfl rfl rfl) rfl ?_
                refine JA_off (i := 15) rfl rfl (by kernel_rfl) (by kernel_rfl) (by kernel_rfl) rfl (wn_g rfl rfl rfl rfl) rfl ?_
                refine JA_offL (i := 16) rfl rfl (by kernel_rfl) (by kernel_rfl) (by kernel_rfl) rfl (by repeat (first | exact Pk.nil _ | (refine Pk.pick (by repeat (first | exact Rm.here _ | apply Rm.there)) ?_))) (wn_g rfl rfl rfl rfl) rfl ?_
                refine JA_off (i := 17) rfl rfl (by kernel_rfl) (by kernel_rfl) (by kernel_rfl) rfl (wn_g rfl rfl rfl rfl) rfl ?_
                refine JA_takeP (i := 18) rfl rfl (by kernel_rfl) (by kernel_rfl) (by kernel_rfl) rfl (wn_g rfl rfl rfl rfl) (rp_pickF rfl rfl rfl) rfl ?_
                refine JA_takeP (i := 19) rfl rfl (by kernel_rfl) (by kernel_rfl) (by kernel_rfl) rfl (wn0 rfl) (rp_pickF rfl rfl rfl) rfl ?_
                refine JA_takeP (i := 20) rfl rfl (by kernel_rfl) (by kernel_rfl) (by kernel_rfl) rfl (wn0 rfl) (rp_move rfl rfl) rfl ?_
                refine JA_takeP (i := 21) rfl rfl (by kernel_rfl) (by kernel_rfl) (by kernel_rfl) rfl (wn_g rfl rfl rfl rfl) (rp_move rfl rfl) rfl ?_
                refine JA_takeP (i := 22) rfl rfl (by kernel_rfl) (by kernel_rfl) (by kernel_rfl) rfl (wn_g rfl rfl rfl rfl) (rp2 rfl rfl (fun ρ hx hy w => ex_add rfl hx hy (by omega))) rfl ?_
                refine JA_takeP (i := 23) rfl rfl (by kernel_rfl) (by kernel_rfl) (by kernel_rfl) rfl (wn_g rfl rfl rfl rfl) (rp_move rfl rfl) rfl ?_
                refine JA_takeP (i := 24) rfl rfl (by kernel_rfl) (by kernel_rfl) (by kernel_rfl) rfl (wn_g rfl rfl rfl rfl) (rp1 rfl (fun ρ hx w => ex_len (A := _) (c := _) rfl Try.underlying45 hx)) rfl ?_
                refine JA_takeP (i := 25) rfl rfl (by kernel_rfl) (by kernel_rfl) (by kernel_rfl) rfl (wn_g rfl rfl rfl rfl) (rp2 rfl rfl (fun ρ hx hy w => ex_lssD rfl hx hy)) rfl ?_
                refine JA_dec (fun h66 => ?_) (fun h66 => ?_)
                · refine JA_takeP (i := 26) rfl rfl (by kernel_rfl) (by kernel_rfl) (by kernel_rfl) rfl (wn_g rfl rfl rfl rfl) (rp_move rfl rfl) rfl ?_
                  refine JA_takeP (i := 27) rfl rfl (by kernel_rfl) (by kernel_rfl) (by kernel_rfl) rfl (wn_g rfl rfl rfl rfl) (rp_move rfl rfl) rfl ?_
                  refine JA_takeP (i := 28) rfl rfl (by kernel_rfl) (by kernel_rfl) (by kernel_rfl) rfl (wn_g rfl rfl rfl rfl) (rp_move rfl rfl) rfl ?_
                  refine JA_takeP (i := 29) rfl rfl (by kernel_rfl) (by kernel_rfl) (by kernel_rfl) rfl (wn_g rfl rfl rfl rfl) (rp2 rfl rfl (fun ρ hx hy w => ex_add rfl hx hy (by omega))) rfl ?_
                  refine JA_takeP (i := 30) rfl rfl (by kernel_rfl) (by kernel_rfl) (by kernel_rfl) rfl (wn_g rfl rfl rfl rfl) (rp2 rfl rfl (fun ρ hx hy w => ex_indexI (k := i + 1) rfl hx hy (by omega) Try.underlying45 sz_58 (by omega))) rfl ?_
                  refine JA_takeP (i := 31) rfl rfl (by kernel_rfl) (by kernel_rfl) (by kernel_rfl) rfl (wn_g rfl rfl rfl rfl) (rp_fieldE (i' := 3) rfl rfl fa_58_3 rfl) rfl ?_
                  refine JA_takeL (i := 32) rfl rfl (by kernel_rfl) (by kernel_rfl) (by kernel_rfl) rfl rfl (by repeat (first | exact Pk.nil _ | (refine Pk.pick (by repeat (first | exact Rm.here _ | apply Rm.there)) ?_))) (wn_g rfl rfl rfl rfl) (rv_ownE (k := 8) (j := i + 1) EW rfl rfl ag_3 (by repeat (first | exact List.Mem.head _ | apply List.Mem.tail)) (by omega) (by omega) rfl) rfl ?_
                  refine JA_takeP (i := 33) rfl rfl (by kernel_rfl) (by kernel_rfl) (by kernel_rfl) rfl (wn_g rfl rfl rfl rfl) (rp_fieldC (off' := 3) rfl rfl fa_58_3 rfl) rfl ?_
                  refine JA_takeL (i := 34) rfl rfl (by kernel_rfl) (by kernel_rfl) (by kernel_rfl) rfl rfl (by repeat (first | exact Pk.nil _ | (refine Pk.pick (by repeat (first | exact Rm.here _ | apply Rm.there)) ?_))) (wn_g rfl rfl rfl rfl) (rv_cell rfl rfl ag_3 (by repeat (first | exact List.Mem.head _ | apply List.Mem.tail)) (by rfl)) rfl ?_
                  refine JA_takeP (i := 35) rfl rfl (by kernel_rfl) (by kernel_rfl) (by kernel_rfl) rfl (wn_g rfl rfl rfl rfl) (rp2 rfl rfl (fun ρ hx hy w => ex_eqlD rfl hx hy)) rfl ?_
                  refine JA_dec (fun h76 => ?_) (fun h76 => ?_)
                  · refine JA_takeP (i := 36) rfl rfl (by kernel_rfl) (by kernel_rfl) (by kernel_rfl) rfl (wn_g rfl rfl rfl rfl) (rp_pickT rfl rfl rfl) rfl ?_
                    refine JA_takeP (i := 37) rfl rfl (by kernel_rfl) (by kernel_rfl) (by kernel_rfl) rfl (wn0 rfl) (rp_pickF rfl rfl rfl) rfl ?_
                    refine JA_done (by kernel_rfl) ?_
                    exact JQ_cut true (fun h => absurd rfl h) ⟨rfl, rfl, rfl, rfl, rfl, rfl, trivial⟩ (by repeat (first | exact Pk.nil _ | (refine Pk.pick (by repeat (first | exact Rm.here _ | apply Rm.there)) ?_)))
                  · refine JA_takeP (i := 36) rfl rfl (by kernel_rfl) (by kernel_rfl) (by kernel_rfl) rfl (wn_g rfl rfl rfl rfl) (rp_pickT rfl rfl rfl) rfl ?_
                    refine JA_takeP (i := 37) rfl rfl (by kernel_rfl) (by kernel_rfl) (by kernel_rfl) rfl (wn0 rfl) (rp_pickF rfl rfl rfl) rfl ?_
                    refine JA_done (by kernel_rfl) ?_
                    exact JQ_cut false (fun _ => ⟨(by omega), (fun h => by omega), (fun h => h76)⟩) ⟨rfl, rfl, rfl, rfl, rfl, rfl, trivial⟩ (by repeat (first | exact Pk.nil _ | (refine Pk.pick (by repeat (first | exact Rm.here _ | apply Rm.there)) ?_)))
                · refine JA_takeP (i := 26) rfl rfl (by kernel_rfl) (by kernel_rfl) (by kernel_rfl) rfl (wn_g rfl rfl rfl rfl) (rp_move rfl rfl) rfl ?_
                  refine JA_off (i := 27) rfl rfl (by kernel_rfl) (by kernel_rfl) (by kernel_rfl) rfl (wn_g rfl rfl rfl rfl) rfl ?_
                  refine JA_off (i := 28) rfl rfl (by kernel_rfl) (by kernel_rfl) (by kernel_rfl) rfl (wn_g rfl rfl rfl rfl) rfl ?_
                  refine JA_off (i := 29) rfl rfl (by kernel_rfl) (by kernel_rfl) (by kernel_rfl) rfl (wn_g rfl rfl rfl rfl) rfl ?_
                  refine JA_off (i := 30) rfl rfl (by kernel_rfl) (by kernel_rfl) (by kernel_rfl) rfl (wn_g rfl rfl rfl rfl) rfl ?_
                  refine JA_off (i := 31) rfl rfl (by kernel_rfl) (by kernel_rfl) (by kernel_rfl) rfl (wn_g rfl rfl rfl rfl) rfl ?_
                  refine JA_offL (i := 32) rfl rfl (by kernel_rfl) (by kernel_rfl) (by kernel_rfl) rfl (by repeat (first | exact Pk.nil _ | (refine Pk.pick (by repeat (first | exact Rm.here _ | apply Rm.there)) ?_))) (wn_g rfl rfl rfl rfl) rfl ?_
                  refine JA_off (i := 33) rfl rfl (by kernel_rfl) (by kernel_rfl) (by kernel_rfl) rfl (wn_g rfl rfl rfl rfl) rfl ?_
                  refine JA_offL (i := 34) rfl rfl (by kernel_rfl) (by kernel_rfl) (by kernel_rfl) rfl (by repeat (first | exact Pk.nil _ | (refine Pk.pick (by repeat (first | exact Rm.here _ | apply Rm.there)) ?_))) (wn_g rfl rfl rfl rfl) rfl ?_
                  refine JA_off (i := 35) rfl rfl (by kernel_rfl) (by kernel_rfl) (by kernel_rfl) rfl (wn_g rfl rfl rfl rfl) rfl ?_
                  refine JA_takeP (i := 36) rfl rfl (by kernel_rfl) (by kernel_rfl) (by kernel_rfl) rfl (wn_g rfl rfl rfl rfl) (rp_pickF rfl rfl rfl) rfl ?_
                  refine JA_takeP (i := 37) rfl rfl (by kernel_rfl) (by kernel_rfl) (by kernel_rfl) rfl (wn0 rfl) (rp_pickF rfl rfl rfl) rfl ?_
                  refine JA_done (by kernel_rfl) ?_
                  exact JQ_cut false (fun _ => ⟨(by omega), (fun h => by omega), (fun h => by omega)⟩) ⟨rfl, rfl, rfl, rfl, rfl, rfl, trivial⟩ (by repeat (first | exact Pk.nil _ | (refine Pk.pick (by repeat (first | exact Rm.here _ | apply Rm.there)) ?_)))
          · rintro t78 hf
            refine J_if rfl (fun h78 => ?_) (fun h78 => ?_)
            · refine J_exit ?_
              refine JQ_then_x ?_
              refine JQ_block_y rfl ?_
              refine JQ_then_n ?_
              refine J_reg ?_
              refine JL_val rfl (wn0 rfl) (RP.rv (rp_move rfl rfl)) rfl ?_
              refine JL_val rfl (wn0 rfl) (RP.rv (rp2 rfl rfl (fun ρ hx hy w => ex_add rfl hx hy (by omega)))) rfl ?_
              refine JL_val rfl (wn0 rfl) (RP.rv (rp_assign rfl rfl)) rfl ?_
              refine JL_nil ?_
              exact JQ_round (i + 1) ⟨by omega, by omega⟩ (by omega) ⟨rfl, rfl, (congrArg some (by go_num)), trivial⟩ (by repeat (first | exact Pk.nil _ | (refine Pk.pick (by repeat (first | exact Rm.here _ | apply Rm.there)) ?_)))
            · refine J_skip ?_
              refine JQ_then_n ?_
              refine J_seq ?_
              obtain ⟨f1, f2, f3⟩ := hf h78
              refine J_reg ?_
              refine JL_val rfl (wn0 rfl) (RP.rv (rp_assign rfl rfl)) rfl ?_
              refine JL_nil ?_
              refine JQ_then_n ?_
              refine J_seq ?_
              refine J_seq ?_
              refine J_reg ?_
              refine JL_val rfl (wn0 rfl) (RP.rv (rp_assign rfl rfl)) rfl ?_
              refine JL_nil ?_
              refine JQ_then_n ?_
              refine J_block ?_
              refine J_loop (T := Nat) (fun k => k ≤ l.length) (fun k => [(1, .slice A l.length c), (5, .slice (some ⟨g20, 0, none⟩) tb.length c20), (7, .int .i64 (i : Nat)), (8, .pointer (some ⟨b8, 0, none⟩)), (9, .pointer (some ⟨b9, 0, none⟩)), (10, .int .i64 (mwF (l.take k) ra.team rb.team)), (11, .int .i64 (k : Nat))]) (fun k => [cellB b8 [.int .i64 ra.team, .int .i64 ra.place, .int .i64 ra.games, .int .i64 ra.wins, .int .i64 ra.fr, .int .i64 ra.ag, .int .i64 ra.draws, .int .i64 ra.len] 58, cellB b9 [.int .i64 rb.team, .int .i64 rb.place, .int .i64 rb.games, .int .i64 rb.wins, .int .i64 rb.fr, .int .i64 rb.ag, .int .i64 rb.draws, .int .i64 rb.len] 58, ownB 58 8 (some ⟨g20, 0, none⟩) tb.length c20 (tb.flatMap eW)]) (fun k => l.length - k) 0 (Nat.zero_le _) ⟨rfl, rfl, rfl, rfl, rfl, rfl, rfl, trivial⟩ (by repeat (first | exact Pk.nil _ | (refine Pk.pick (by repeat (first | exact Rm.here _ | apply Rm.there)) ?_))) ?_
              rintro k hk
              refine J_seq ?_
              refine J_seq ?_
              refine J_reg ?_
              refine JL_val rfl (wn0 rfl) (RP.rv (rp_move rfl rfl)) rfl ?_
              refine JL_val rfl (wn0 rfl) (RP.rv (rp_move rfl rfl)) rfl ?_
              refine JL_val rfl (wn0 rfl) (RP.rv (rp1 rfl (fun ρ hx w => ex_len (A := _) (c := _) rfl Try.underlying44 hx))) rfl ?_
              refine JL_val rfl (wn0 rfl) (RP.rv (rp2 rfl rfl (fun ρ hx hy w => ex_lssD rfl hx hy))) rfl ?_
              refine JL_dec (fun h82 => ?_) (fun h82 => ?_)
              · refine JL_nil ?_
                refine JQ_then_n ?_
                refine J_yes rfl rfl ?_
                refine J_skip ?_
                refine JQ_then_n ?_
                refine J_seq ?_
                refine J_block ?_
                refine J_seq ?_
                obtain ⟨Ag, cg, eg, -, -, hA⟩ := id hrow
                injection eg with e1 e2 e3
                subst e1 e3
                have hlt : k < l.length := by omega
                obtain ⟨b, p, rfl, hh⟩ := hA (by intro e; subst e; simp at hlt)
                obtain ⟨x, hx⟩ : ∃ x, l[k]'hlt = x := ⟨_, rfl⟩
                refine J_keep (l' := [(1, _), (5, _), (7, _), (8, _), (9, _), (10, _), (11, _)]) ⟨rfl, rfl, rfl, rfl, rfl, rfl, rfl, trivial⟩ ?_
                refine J_reg ?_
                refine JL_val rfl (wn0 rfl) (RP.rv (rp_move rfl rfl)) rfl ?_
                refine JL_val rfl (wn0 rfl) (RP.rv (rp_move rfl rfl)) rfl ?_
                refine JL_val rfl (wn0 rfl) (RP.rv (rp2 rfl rfl (fun ρ hx hy w => ex_indexE rfl hx hy Try.underlying44 sz_56 (by omega)))) rfl ?_
                refine JL_val rfl (wn0 rfl) (rv_holdagg (cs := [.int .i64 x.a, .int .i64 x.b, .int .i64 x.p0, .int .i64 x.p1, .int .i64 x.m0, .int .i64 x.m1]) ER rfl rfl ag_56 sz_56 (fun h => h) hh (by omega) (by rw [hx]; rfl)) rfl ?_
                refine JL_op (wn0 rfl) (ow_alloc rfl rfl zv_56 rfl rfl) (fun b12 hb12 => ?_)
                refine JL_op (wn0 rfl) (ow_store (cs := [_, _, _, _, _, _]) (vs' := [_, _, _, _, _, _]) rfl rfl rfl rfl rfl sz_56 rfl (by repeat (first | exact At.here _ | apply At.there)) (by rfl) (by rfl)) (fun _ _ => ?_)
                refine JL_nil ?_
                refine JQ_then_n ?_
                refine J_seq ?_
                refine J_keep (l' := [(1, _), (5, _), (7, _), (8, _), (9, _), (10, _), (11, _), (12, _)]) ⟨rfl, rfl, rfl, rfl, rfl, rfl, rfl, rfl, trivial⟩ ?_
                refine J_reg ?_
                refine JL_val rfl (wn0 rfl) (RP.rv (rp_fieldC (off' := 0) rfl rfl fa_56_0 rfl)) rfl ?_
                refine JL_val rfl (wn0 rfl) (rv_cell rfl rfl ag_3 (by repeat (first | exact List.Mem.head _ | apply List.Mem.tail)) (by rfl)) rfl ?_
                refine JL_val rfl (wn0 rfl) (RP.rv (rp_fieldC (off' := 0) rfl rfl fa_58_0 rfl)) rfl ?_
                refine JL_val rfl (wn0 rfl) (rv_cell rfl rfl ag_3 (by repeat (first | exact List.Mem.head _ | apply List.Mem.tail)) (by rfl)) rfl ?_
                refine JL_val rfl (wn0 rfl) (RP.rv (rp2 rfl rfl (fun ρ hx hy w => ex_eqlD rfl hx hy))) rfl ?_
                refine JL_dec (fun h93 => ?_) (fun h93 => ?_)
                · refine JL_val rfl (wn0 rfl) (RP.rv (rp_move rfl rfl)) rfl ?_
                  refine JL_val rfl (wn_g rfl rfl rfl rfl) (RP.rv (rp_fieldC (off' := 1) rfl rfl fa_56_1 rfl)) rfl ?_
                  refine JL_val rfl (wn_g rfl rfl rfl rfl) (rv_cell rfl rfl ag_3 (by repeat (first | exact List.Mem.head _ | apply List.Mem.tail)) (by rfl)) rfl ?_
                  refine JL_val rfl (wn_g rfl rfl rfl rfl) (RP.rv (rp_fieldC (off' := 0) rfl rfl fa_58_0 rfl)) rfl ?_
                  refine JL_val rfl (wn_g rfl rfl rfl rfl) (rv_cell rfl rfl ag_3 (by repeat (first | exact List.Mem.head _ | apply List.Mem.tail)) (by rfl)) rfl ?_
                  refine JL_val rfl (wn_g rfl rfl rfl rfl) (RP.rv (rp2 rfl rfl (fun ρ hx hy w => ex_eqlD rfl hx hy))) rfl ?_
                  refine JL_dec (fun h99 => ?_) (fun h99 => ?_)
                  · refine JL_val rfl (wn0 rfl) (RP.rv (rp_pickT rfl rfl rfl)) rfl ?_
                    refine JL_val rfl (wn0 rfl) (RP.rv (rp_move rfl rfl)) rfl ?_
                    refine JL_off rfl (wn_g rfl rfl rfl rfl) rfl ?_
                    refine JL_off rfl (wn_g rfl rfl rfl rfl) rfl ?_
                    refine JL_off rfl (wn_g rfl rfl rfl rfl) rfl ?_
                    refine JL_off rfl (wn_g rfl rfl rfl rfl) rfl ?_
                    refine JL_off rfl (wn_g rfl rfl rfl rfl) rfl ?_
                    refine JL_off rfl (wn_g rfl rfl rfl rfl) rfl ?_
                    refine JL_off rfl (wn_u rfl rfl rfl) rfl ?_
                    refine JL_off rfl (wn_u rfl rfl rfl) rfl ?_
                    refine JL_off rfl (wn_u rfl rfl rfl) rfl ?_
                    refine JL_off rfl (wn_u rfl rfl rfl) rfl ?_
                    refine JL_off rfl (wn_u rfl rfl rfl) rfl ?_
                    refine JL_off rfl (wn_g rfl rfl rfl rfl) rfl ?_
                    refine JL_val rfl (wn0 rfl) (RP.rv (rp_pickT rfl rfl rfl)) rfl ?_
                    refine JL_nil ?_
                    refine JQ_then_n ?_
                    refine J_yes rfl rfl ?_
                    refine J_seq ?_
                    refine J_keep (l' := [(1, _), (5, _), (7, _), (8, _), (9, _), (11, _), (12, _)]) ⟨rfl, rfl, rfl, rfl, rfl, rfl, rfl, trivial⟩ ?_
                    refine J_reg ?_
                    refine JL_val rfl (wn0 rfl) (RP.rv (rp_fieldC (off' := 0) rfl rfl fa_56_0 rfl)) rfl ?_
                    refine JL_val rfl (wn0 rfl) (rv_cell rfl rfl ag_3 (by repeat (first | exact List.Mem.head _ | apply List.Mem.tail)) (by rfl)) rfl ?_
                    refine JL_val rfl (wn0 rfl) (RP.rv (rp_assign rfl rfl)) rfl ?_
                    refine JL_nil ?_
                    refine JQ_then_n ?_
                    refine J_seq ?_
                    refine J_reg ?_
                    refine JL_val rfl (wn0 rfl) (RP.rv (rp_fieldC (off' := 2) rfl rfl fa_56_2 rfl)) rfl ?_
                    refine JL_val rfl (wn0 rfl) (RP.rv (rp_arrC (off' := 3) rfl rfl rfl ia_42_1 rfl)) rfl ?_
                    refine JL_val rfl (wn0 rfl) (rv_cell rfl rfl ag_3 (by repeat (first | exact List.Mem.head _ | apply List.Mem.tail)) (by rfl)) rfl ?_
                    refine JL_val rfl (wn0 rfl) (RP.rv (rp_fieldC (off' := 2) rfl rfl fa_56_2 rfl)) rfl ?_
                    refine JL_val rfl (wn0 rfl) (RP.rv (rp_arrC (off' := 2) rfl rfl rfl ia_42_0 rfl)) rfl ?_
                    refine JL_val rfl (wn0 rfl) (rv_cell rfl rfl ag_3 (by repeat (first | exact List.Mem.head _ | apply List.Mem.tail)) (by rfl)) rfl ?_
                    refine JL_val rfl (wn0 rfl) (RP.rv (rp2 rfl rfl (fun ρ hx hy w => ex_gtrD rfl hx hy))) rfl ?_
                    refine JL_dec (fun h123 => ?_) (fun h123 => ?_)
                    · refine JL_nil ?_
                      refine JQ_then_n ?_
                      refine J_yes rfl rfl ?_
                      refine J_keep (l' := [(1, _), (5, _), (7, _), (8, _), (9, _), (11, _), (12, _)]) ⟨rfl, rfl, rfl, rfl, rfl, rfl, rfl, trivial⟩ ?_
                      refine J_reg ?_
                      refine JL_val rfl (wn0 rfl) (RP.rv (rp_fieldC (off' := 1) rfl rfl fa_56_1 rfl)) rfl ?_
                      refine JL_val rfl (wn0 rfl) (rv_cell rfl rfl ag_3 (by repeat (first | exact List.Mem.head _ | apply List.Mem.tail)) (by rfl)) rfl ?_
                      refine JL_val rfl (wn0 rfl) (RP.rv (rp_assign rfl rfl)) rfl ?_
                      refine JL_nil ?_
                      refine JQ_block_n ?_
                      refine JQ_then_n ?_
                      refine J_reg ?_
                      refine JL_val rfl (wn0 rfl) (RP.rv (rp_move rfl rfl)) rfl ?_
                      refine JL_val rfl (wn0 rfl) (RP.rv (rp2 rfl rfl (fun ρ hx hy w => ex_add rfl hx hy (by omega)))) rfl ?_
                      refine JL_val rfl (wn0 rfl) (RP.rv (rp_assign rfl rfl)) rfl ?_
                      refine JL_nil ?_
                      have hsn := mwF_snoc l ra.team rb.team k hlt
                      rw [hx] at hsn
                      have e1 : mwF (l.take (k + 1)) ra.team rb.team = x.b := by rw [hsn]; unfold mwS; rw [if_pos (by unfold mtch; omega), if_pos (by omega)]
                      exact JQ_round (k + 1) (by omega) (by omega) ⟨rfl, rfl, rfl, rfl, rfl, (by rw [e1]; rfl), (congrArg some (by go_num)), trivial⟩ (by repeat (first | exact Pk.nil _ | (refine Pk.pick (by repeat (first | exact Rm.here _ | apply Rm.there)) ?_)))
                    · refine JL_nil ?_
                      refine JQ_then_n ?_
                      refine J_no rfl rfl ?_
                      refine J_skip ?_
                      refine JQ_block_n ?_
                      refine JQ_then_n ?_
                      refine J_keep (l' := [(1, _), (5, _), (7, _), (8, _), (9, _), (10, _), (11, _)]) ⟨rfl, rfl, rfl, rfl, rfl, rfl, rfl, trivial⟩ ?_
                      refine J_reg ?_
                      refine JL_val rfl (wn0 rfl) (RP.rv (rp_move rfl rfl)) rfl ?_
                      refine JL_val rfl (wn0 rfl) (RP.rv (rp2 rfl rfl (fun ρ hx hy w => ex_add rfl hx hy (by omega)))) rfl ?_
                      refine JL_val rfl (wn0 rfl) (RP.rv (rp_assign rfl rfl)) rfl ?_
                      refine JL_nil ?_
                      have hsn := mwF_snoc l ra.team rb.team k hlt
                      rw [hx] at hsn
                      have e1 : mwF (l.take (k + 1)) ra.team rb.team = x.a := by rw [hsn]; unfold mwS; rw [if_pos (by unfold mtch; omega), if_neg (by omega)]
                      exact JQ_round (k + 1) (by omega) (by omega) ⟨rfl, rfl, rfl, rfl, rfl, (by rw [e1]; rfl), (congrArg some (by go_num)), trivial⟩ (by repeat (first | exact Pk.nil _ | (refine Pk.pick (by repeat (first | exact Rm.here _ | apply Rm.there)) ?_)))
                  · refine JL_val rfl (wn0 rfl) (RP.rv (rp_pickT rfl rfl rfl)) rfl ?_
                    refine JL_val rfl (wn0 rfl) (RP.rv (rp_move rfl rfl)) rfl ?_
                    refine JL_val rfl (wn_g rfl rfl rfl rfl) (RP.rv (rp_fieldC (off' := 0) rfl rfl fa_56_0 rfl)) rfl ?_
                    refine JL_val rfl (wn_g rfl rfl rfl rfl) (rv_cell rfl rfl ag_3 (by repeat (first | exact List.Mem.head _ | apply List.Mem.tail)) (by rfl)) rfl ?_
                    refine JL_val rfl (wn_g rfl rfl rfl rfl) (RP.rv (rp_fieldC (off' := 0) rfl rfl fa_58_0 rfl)) rfl ?_
                    refine JL_val rfl (wn_g rfl rfl rfl rfl) (rv_cell rfl rfl ag_3 (by repeat (first | exact List.Mem.head _ | apply List.Mem.tail)) (by rfl)) rfl ?_
                    refine JL_val rfl (wn_g rfl rfl rfl rfl) (RP.rv (rp2 rfl rfl (fun ρ hx hy w => ex_eqlD rfl hx hy))) rfl ?_
                    refine JL_dec (fun h106 => ?_) (fun h106 => ?_)
                    · refine JL_val rfl (wn_g rfl rfl rfl rfl) (RP.rv (rp_move rfl rfl)) rfl ?_
                      refine JL_val rfl (wn_g rfl rfl rfl rfl) (RP.rv (rp_fieldC (off' := 1) rfl rfl fa_56_1 rfl)) rfl ?_
                      refine JL_val rfl (wn_g rfl rfl rfl rfl) (rv_cell rfl rfl ag_3 (by repeat (first | exact List.Mem.head _ | apply List.Mem.tail)) (by rfl)) rfl ?_
                      refine JL_val rfl (wn_g rfl rfl rfl rfl) (RP.rv (rp_fieldC (off' := 0) rfl rfl fa_58_0 rfl)) rfl ?_
                      refine JL_val rfl (wn_g rfl rfl rfl rfl) (rv_cell rfl rfl ag_3 (by repeat (first | exact List.Mem.head _ | apply List.Mem.tail)) (by rfl)) rfl ?_
                      refine JL_val rfl (wn_g rfl rfl rfl rfl) (RP.rv (rp2 rfl rfl (fun ρ hx hy w => ex_eqlD rfl hx hy))) rfl ?_
                      refine JL_dec (fun h112 => ?_) (fun h112 => ?_)
                      · refine JL_val rfl (wn_g rfl rfl rfl rfl) (RP.rv (rp_pickT rfl rfl rfl)) rfl ?_
                        refine JL_val rfl (wn0 rfl) (RP.rv (rp_pickF rfl rfl rfl)) rfl ?_
                        refine JL_nil ?_
                        refine JQ_then_n ?_
                        refine J_yes rfl rfl ?_
                        refine J_seq ?_
                        refine J_keep (l' := [(1, _), (5, _), (7, _), (8, _), (9, _), (11, _), (12, _)]) ⟨rfl, rfl, rfl, rfl, rfl, rfl, rfl, trivial⟩ ?_
                        refine J_reg ?_
                        refine JL_val rfl (wn0 rfl) (RP.rv (rp_fieldC (off' := 0) rfl rfl fa_56_0 rfl)) rfl ?_
                        refine JL_val rfl (wn0 rfl) (rv_cell rfl rfl ag_3 (by repeat (first | exact List.Mem.head _ | apply List.Mem.tail)) (by rfl)) rfl ?_
                        refine JL_val rfl (wn0 rfl) (RP.rv (rp_assign rfl rfl)) rfl ?_
                        refine JL_nil ?_
                        refine JQ_then_n ?_
                        refine J_seq ?_
                        refine J_reg ?_
                        refine JL_val rfl (wn0 rfl) (RP.rv (rp_fieldC (off' := 2) rfl rfl fa_56_2 rfl)) rfl ?_
                        refine JL_val rfl (wn0 rfl) (RP.rv (rp_arrC (off' := 3) rfl rfl rfl ia_42_1 rfl)) rfl ?_
                        refine JL_val rfl (wn0 rfl) (rv_cell rfl rfl ag_3 (by repeat (first | exact List.Mem.head _ | apply List.Mem.tail)) (by rfl)) rfl ?_
                        refine JL_val rfl (wn0 rfl) (RP.rv (rp_fieldC (off' := 2) rfl rfl fa_56_2 rfl)) rfl ?_
                        refine JL_val rfl (wn0 rfl) (RP.rv (rp_arrC (off' := 2) rfl rfl rfl ia_42_0 rfl)) rfl ?_
                        refine JL_val rfl (wn0 rfl) (rv_cell rfl rfl ag_3 (by repeat (first | exact List.Mem.head _ | apply List.Mem.tail)) (by rfl)) rfl ?_
                        refine JL_val rfl (wn0 rfl) (RP.rv (rp2 rfl rfl (fun ρ hx hy w => ex_gtrD rfl hx hy))) rfl ?_
                        refine JL_dec (fun h123 => ?_) (fun h123 => ?_)
                        · refine JL_nil ?_
                          refine JQ_then_n ?_
                          refine J_yes rfl rfl ?_
                          refine J_keep (l' := [(1, _), (5, _), (7, _), (8, _), (9, _), (11, _), (12, _)]) ⟨rfl, rfl, rfl, rfl, rfl, rfl, rfl, trivial⟩ ?_
                          refine J_reg ?_
                          refine JL_val rfl (wn0 rfl) (RP.rv (rp_fieldC (off' := 1) rfl rfl fa_56_1 rfl)) rfl ?_
                          refine JL_val rfl (wn0 rfl) (rv_cell rfl rfl ag_3 (by repeat (first | exact List.Mem.head _ | apply List.Mem.tail)) (by rfl)) rfl ?_
                          refine JL_val rfl (wn0 rfl) (RP.rv (rp_assign rfl rfl)) rfl ?_
                          refine JL_nil ?_
                          refine JQ_block_n ?_
                          refine JQ_then_n ?_
                          refine J_reg ?_
                          refine JL_val rfl (wn0 rfl) (RP.rv (rp_move rfl rfl)) rfl ?_
                          refine JL_val rfl (wn0 rfl) (RP.rv (rp2 rfl rfl (fun ρ hx hy w => ex_add rfl hx hy (by omega)))) rfl ?_
                          refine JL_val rfl (wn0 rfl) (RP.rv (rp_assign rfl rfl)) rfl ?_
                          refine JL_nil ?_
                          have hsn := mwF_snoc l ra.team rb.team k hlt
                          rw [hx] at hsn
                          have e1 : mwF (l.take (k + 1)) ra.team rb.team = x.b := by rw [hsn]; unfold mwS; rw [if_pos (by unfold mtch; omega), if_pos (by omega)]
                          exact JQ_round (k + 1) (by omega) (by omega) ⟨rfl, rfl, rfl, rfl, rfl, (by rw [e1]; rfl), (congrArg some (by go_num)), trivial⟩ (by repeat (first | exact Pk.nil _ | (refine Pk.pick (by repeat (first | exact Rm.here _ | apply Rm.there)) ?_)))
                        · refine JL_nil ?_
                          refine JQ_then_n ?_
                          refine J_no rfl rfl ?_
                          refine J_skip ?_
                          refine JQ_block_n ?_
                          refine JQ_then_n ?_
                          refine J_keep (l' := [(1, _), (5, _), (7, _), (8, _), (9, _), (10, _), (11, _)]) ⟨rfl, rfl, rfl, rfl, rfl, rfl, rfl, trivial⟩ ?_
                          refine J_reg ?_
                          refine JL_val rfl (wn0 rfl) (RP.rv (rp_move rfl rfl)) rfl ?_
                          refine JL_val rfl (wn0 rfl) (RP.rv (rp2 rfl rfl (fun ρ hx hy w => ex_add rfl hx hy (by omega)))) rfl ?_
                          refine JL_val rfl (wn0 rfl) (RP.rv (rp_assign rfl rfl)) rfl ?_
                          refine JL_nil ?_
                          have hsn := mwF_snoc l ra.team rb.team k hlt
                          rw [hx] at hsn
                          have e1 : mwF (l.take (k + 1)) ra.team rb.team = x.a := by rw [hsn]; unfold mwS; rw [if_pos (by unfold mtch; omega), if_neg (by omega)]
                          exact JQ_round (k + 1) (by omega) (by omega) ⟨rfl, rfl, rfl, rfl, rfl, (by rw [e1]; rfl), (congrArg some (by go_num)), trivial⟩ (by repeat (first | exact Pk.nil _ | (refine Pk.pick (by repeat (first | exact Rm.here _ | apply Rm.there)) ?_)))
                      · refine JL_val rfl (wn_g rfl rfl rfl rfl) (RP.rv (rp_pickT rfl rfl rfl)) rfl ?_
                        refine JL_val rfl (wn0 rfl) (RP.rv (rp_pickF rfl rfl rfl)) rfl ?_
                        refine JL_nil ?_
                        refine JQ_then_n ?_
                        refine J_no rfl rfl ?_
                        refine J_skip ?_
                        refine JQ_block_n ?_
                        refine JQ_then_n ?_
                        refine J_keep (l' := [(1, _), (5, _), (7, _), (8, _), (9, _), (10, _), (11, _)]) ⟨rfl, rfl, rfl, rfl, rfl, rfl, rfl, trivial⟩ ?_
                        refine J_reg ?_
                        refine JL_val rfl (wn0 rfl) (RP.rv (rp_move rfl rfl)) rfl ?_
                        refine JL_val rfl (wn0 rfl) (RP.rv (rp2 rfl rfl (fun ρ hx hy w => ex_add rfl hx hy (by omega)))) rfl ?_
                        refine JL_val rfl (wn0 rfl) (RP.rv (rp_assign rfl rfl)) rfl ?_
                        refine JL_nil ?_
                        have hsn := mwF_snoc l ra.team rb.team k hlt
                        rw [hx] at hsn
                        have e1 : mwF (l.take (k + 1)) ra.team rb.team = mwF (l.take k) ra.team rb.team := by rw [hsn]; unfold mwS; rw [if_neg (by unfold mtch; omega)]
                        exact JQ_round (k + 1) (by omega) (by omega) ⟨rfl, rfl, rfl, rfl, rfl, (by rw [e1]; rfl), (congrArg some (by go_num)), trivial⟩ (by repeat (first | exact Pk.nil _ | (refine Pk.pick (by repeat (first | exact Rm.here _ | apply Rm.there)) ?_)))
                    · refine JL_val rfl (wn_g rfl rfl rfl rfl) (RP.rv (rp_move rfl rfl)) rfl ?_
                      refine JL_off rfl (wn_g rfl rfl rfl rfl) rfl ?_
                      refine JL_off rfl (wn_g rfl rfl rfl rfl) rfl ?_
                      refine JL_off rfl (wn_g rfl rfl rfl rfl) rfl ?_
                      refine JL_off rfl (wn_g rfl rfl rfl rfl) rfl ?_
                      refine JL_off rfl (wn_g rfl rfl rfl rfl) rfl ?_
                      refine JL_val rfl (wn_g rfl rfl rfl rfl) (RP.rv (rp_pickF rfl rfl rfl)) rfl ?_
                      refine JL_val rfl (wn0 rfl) (RP.rv (rp_pickF rfl rfl rfl)) rfl ?_
                      refine JL_nil ?_
                      refine JQ_then_n ?_
                      refine J_no rfl rfl ?_
                      refine J_skip ?_
                      refine JQ_block_n ?_
                      refine JQ_then_n ?_
                      refine J_keep (l' := [(1, _), (5, _), (7, _), (8, _), (9, _), (10, _), (11, _)]) ⟨rfl, rfl, rfl, rfl, rfl, rfl, rfl, trivial⟩ ?_
                      refine J_reg ?_
                      refine JL_val rfl (wn0 rfl) (RP.rv (rp_move rfl rfl)) rfl ?_
                      refine JL_val rfl (wn0 rfl) (RP.rv (rp2 rfl rfl (fun ρ hx hy w => ex_add rfl hx hy (by omega)))) rfl ?_
                      refine JL_val rfl (wn0 rfl) (RP.rv (rp_assign rfl rfl)) rfl ?_
                      refine JL_nil ?_
                      have hsn := mwF_snoc l ra.team rb.team k hlt
                      rw [hx] at hsn
                      have e1 : mwF (l.take (k + 1)) ra.team rb.team = mwF (l.take k) ra.team rb.team := by rw [hsn]; unfold mwS; rw [if_neg (by unfold mtch; omega)]
                      exact JQ_round (k + 1) (by omega) (by omega) ⟨rfl, rfl, rfl, rfl, rfl, (by rw [e1]; rfl), (congrArg some (by go_num)), trivial⟩ (by repeat (first | exact Pk.nil _ | (refine Pk.pick (by repeat (first | exact Rm.here _ | apply Rm.there)) ?_)))
                · refine JL_val rfl (wn0 rfl) (RP.rv (rp_move rfl rfl)) rfl ?_
                  refine JL_off rfl (wn_g rfl rfl rfl rfl) rfl ?_
                  refine JL_off rfl (wn_g rfl rfl rfl rfl) rfl ?_
                  refine JL_off rfl (wn_g rfl rfl rfl rfl) rfl ?_
                  refine JL_off rfl (wn_g rfl rfl rfl rfl) rfl ?_
                  refine JL_off rfl (wn_g rfl rfl rfl rfl) rfl ?_
                  refine JL_val rfl (wn0 rfl) (RP.rv (rp_pickF rfl rfl rfl)) rfl ?_
                  refine JL_val rfl (wn0 rfl) (RP.rv (rp_move rfl rfl)) rfl ?_
                  refine JL_val rfl (wn_g rfl rfl rfl rfl) (RP.rv (rp_fieldC (off' := 0) rfl rfl fa_56_0 rfl)) rfl ?_
                  refine JL_val rfl (wn_g rfl rfl rfl rfl) (rv_cell rfl rfl ag_3 (by repeat (first | exact List.Mem.head _ | apply List.Mem.tail)) (by rfl)) rfl ?_
                  refine JL_val rfl (wn_g rfl rfl rfl rfl) (RP.rv (rp_fieldC (off' := 0) rfl rfl fa_58_0 rfl)) rfl ?_
                  refine JL_val rfl (wn_g rfl rfl rfl rfl) (rv_cell rfl rfl ag_3 (by repeat (first | exact List.Mem.head _ | apply List.Mem.tail)) (by rfl)) rfl ?_
                  refine JL_val rfl (wn_g rfl rfl rfl rfl) (RP.rv (rp2 rfl rfl (fun ρ hx hy w => ex_eqlD rfl hx hy))) rfl ?_
                  refine JL_dec (fun h106 => ?_) (fun h106 => ?_)
                  · refine JL_val rfl (wn_g rfl rfl rfl rfl) (RP.rv (rp_move rfl rfl)) rfl ?_
                    refine JL_val rfl (wn_g rfl rfl rfl rfl) (RP.rv (rp_fieldC (off' := 1) rfl rfl fa_56_1 rfl)) rfl ?_
                    refine JL_val rfl (wn_g rfl rfl rfl rfl) (rv_cell rfl rfl ag_3 (by repeat (first | exact List.Mem.head _ | apply List.Mem.tail)) (by rfl)) rfl ?_
                    refine JL_val rfl (wn_g rfl rfl rfl rfl) (RP.rv (rp_fieldC (off' := 0) rfl rfl fa_58_0 rfl)) rfl ?_
                    refine JL_val rfl (wn_g rfl rfl rfl rfl) (rv_cell rfl rfl ag_3 (by repeat (first | exact List.Mem.head _ | apply List.Mem.tail)) (by rfl)) rfl ?_
                    refine JL_val rfl (wn_g rfl rfl rfl rfl) (RP.rv (rp2 rfl rfl (fun ρ hx hy w => ex_eqlD rfl hx hy))) rfl ?_
                    refine JL_dec (fun h112 => ?_) (fun h112 => ?_)
                    · refine JL_val rfl (wn_g rfl rfl rfl rfl) (RP.rv (rp_pickT rfl rfl rfl)) rfl ?_
                      refine JL_val rfl (wn0 rfl) (RP.rv (rp_pickF rfl rfl rfl)) rfl ?_
                      refine JL_nil ?_
                      refine JQ_then_n ?_
                      refine J_yes rfl rfl ?_
                      refine J_seq ?_
                      refine J_keep (l' := [(1, _), (5, _), (7, _), (8, _), (9, _), (11, _), (12, _)]) ⟨rfl, rfl, rfl, rfl, rfl, rfl, rfl, trivial⟩ ?_
                      refine J_reg ?_
                      refine JL_val rfl (wn0 rfl) (RP.rv (rp_fieldC (off' := 0) rfl rfl fa_56_0 rfl)) rfl ?_
                      refine JL_val rfl (wn0 rfl) (rv_cell rfl rfl ag_3 (by repeat (first | exact List.Mem.head _ | apply List.Mem.tail)) (by rfl)) rfl ?_
                      refine JL_val rfl (wn0 rfl) (RP.rv (rp_assign rfl rfl)) rfl ?_
                      refine JL_nil ?_
                      refine JQ_then_n ?_
                      refine J_seq ?_
                      refine J_reg ?_
                      refine JL_val rfl (wn0 rfl) (RP.rv (rp_fieldC (off' := 2) rfl rfl fa_56_2 rfl)) rfl ?_
                      refine JL_val rfl (wn0 rfl) (RP.rv (rp_arrC (off' := 3) rfl rfl rfl ia_42_1 rfl)) rfl ?_
                      refine JL_val rfl (wn0 rfl) (rv_cell rfl rfl ag_3 (by repeat (first | exact List.Mem.head _ | apply List.Mem.tail)) (by rfl)) rfl ?_
                      refine JL_val rfl (wn0 rfl) (RP.rv (rp_fieldC (off' := 2) rfl rfl fa_56_2 rfl)) rfl ?_
                      refine JL_val rfl (wn0 rfl) (RP.rv (rp_arrC (off' := 2) rfl rfl rfl ia_42_0 rfl)) rfl ?_
                      refine JL_val rfl (wn0 rfl) (rv_cell rfl rfl ag_3 (by repeat (first | exact List.Mem.head _ | apply List.Mem.tail)) (by rfl)) rfl ?_
                      refine JL_val rfl (wn0 rfl) (RP.rv (rp2 rfl rfl (fun ρ hx hy w => ex_gtrD rfl hx hy))) rfl ?_
                      refine JL_dec (fun h123 => ?_) (fun h123 => ?_)
                      · refine JL_nil ?_
                        refine JQ_then_n ?_
                        refine J_yes rfl rfl ?_
                        refine J_keep (l' := [(1, _), (5, _), (7, _), (8, _), (9, _), (11, _), (12, _)]) ⟨rfl, rfl, rfl, rfl, rfl, rfl, rfl, trivial⟩ ?_
                        refine J_reg ?_
                        refine JL_val rfl (wn0 rfl) (RP.rv (rp_fieldC (off' := 1) rfl rfl fa_56_1 rfl)) rfl ?_
                        refine JL_val rfl (wn0 rfl) (rv_cell rfl rfl ag_3 (by repeat (first | exact List.Mem.head _ | apply List.Mem.tail)) (by rfl)) rfl ?_
                        refine JL_val rfl (wn0 rfl) (RP.rv (rp_assign rfl rfl)) rfl ?_
                        refine JL_nil ?_
                        refine JQ_block_n ?_
                        refine JQ_then_n ?_
                        refine J_reg ?_
                        refine JL_val rfl (wn0 rfl) (RP.rv (rp_move rfl rfl)) rfl ?_
                        refine JL_val rfl (wn0 rfl) (RP.rv (rp2 rfl rfl (fun ρ hx hy w => ex_add rfl hx hy (by omega)))) rfl ?_
                        refine JL_val rfl (wn0 rfl) (RP.rv (rp_assign rfl rfl)) rfl ?_
                        refine JL_nil ?_
                        have hsn := mwF_snoc l ra.team rb.team k hlt
                        rw [hx] at hsn
                        have e1 : mwF (l.take (k + 1)) ra.team rb.team = x.b := by rw [hsn]; unfold mwS; rw [if_pos (by unfold mtch; omega), if_pos (by omega)]
                        exact JQ_round (k + 1) (by omega) (by omega) ⟨rfl, rfl, rfl, rfl, rfl, (by rw [e1]; rfl), (congrArg some (by go_num)), trivial⟩ (by repeat (first | exact Pk.nil _ | (refine Pk.pick (by repeat (first | exact Rm.here _ | apply Rm.there)) ?_)))
                      · refine JL_nil ?_
                        refine JQ_then_n ?_
                        refine J_no rfl rfl ?_
                        refine J_skip ?_
                        refine JQ_block_n ?_
                        refine JQ_then_n ?_
                        refine J_keep (l' := [(1, _), (5, _), (7, _), (8, _), (9, _), (10, _), (11, _)]) ⟨rfl, rfl, rfl, rfl, rfl, rfl, rfl, trivial⟩ ?_
                        refine J_reg ?_
                        refine JL_val rfl (wn0 rfl) (RP.rv (rp_move rfl rfl)) rfl ?_
                        refine JL_val rfl (wn0 rfl) (RP.rv (rp2 rfl rfl (fun ρ hx hy w => ex_add rfl hx hy (by omega)))) rfl ?_
                        refine JL_val rfl (wn0 rfl) (RP.rv (rp_assign rfl rfl)) rfl ?_
                        refine JL_nil ?_
                        have hsn := mwF_snoc l ra.team rb.team k hlt
                        rw [hx] at hsn
                        have e1 : mwF (l.take (k + 1)) ra.team rb.team = x.a := by rw [hsn]; unfold mwS; rw [if_pos (by unfold mtch; omega), if_neg (by omega)]
                        exact JQ_round (k + 1) (by omega) (by omega) ⟨rfl, rfl, rfl, rfl, rfl, (by rw [e1]; rfl), (congrArg some (by go_num)), trivial⟩ (by repeat (first | exact Pk.nil _ | (refine Pk.pick (by repeat (first | exact Rm.here _ | apply Rm.there)) ?_)))
                    · refine JL_val rfl (wn_g rfl rfl rfl rfl) (RP.rv (rp_pickT rfl rfl rfl)) rfl ?_
                      refine JL_val rfl (wn0 rfl) (RP.rv (rp_pickF rfl rfl rfl)) rfl ?_
                      refine JL_nil ?_
                      refine JQ_then_n ?_
                      refine J_no rfl rfl ?_
                      refine J_skip ?_
                      refine JQ_block_n ?_
                      refine JQ_then_n ?_
                      refine J_keep (l' := [(1, _), (5, _), (7, _), (8, _), (9, _), (10, _), (11, _)]) ⟨rfl, rfl, rfl, rfl, rfl, rfl, rfl, trivial⟩ ?_
                      refine J_reg ?_
                      refine JL_val rfl (wn0 rfl) (RP.rv (rp_move rfl rfl)) rfl ?_
                      refine JL_val rfl (wn0 rfl) (RP.rv (rp2 rfl rfl (fun ρ hx hy w => ex_add rfl hx hy (by omega)))) rfl ?_
                      refine JL_val rfl (wn0 rfl) (RP.rv (rp_assign rfl rfl)) rfl ?_
                      refine JL_nil ?_
                      have hsn := mwF_snoc l ra.team rb.team k hlt
                      rw [hx] at hsn
                      have e1 : mwF (l.take (k + 1)) ra.team rb.team = mwF (l.take k) ra.team rb.team := by rw [hsn]; unfold mwS; rw [if_neg (by unfold mtch; omega)]
                      exact JQ_round (k + 1) (by omega) (by omega) ⟨rfl, rfl, rfl, rfl, rfl, (by rw [e1]; rfl), (congrArg some (by go_num)), trivial⟩ (by repeat (first | exact Pk.nil _ | (refine Pk.pick (by repeat (first | exact Rm.here _ | apply Rm.there)) ?_)))
                  · refine JL_val rfl (wn_g rfl rfl rfl rfl) (RP.rv (rp_move rfl rfl)) rfl ?_
                    refine JL_off rfl (wn_g rfl rfl rfl rfl) rfl ?_
                    refine JL_off rfl (wn_g rfl rfl rfl rfl) rfl ?_
                    refine JL_off rfl (wn_g rfl rfl rfl rfl) rfl ?_
                    refine JL_off rfl (wn_g rfl rfl rfl rfl) rfl ?_
                    refine JL_off rfl (wn_g rfl rfl rfl rfl) rfl ?_
                    refine JL_val rfl (wn_g rfl rfl rfl rfl) (RP.rv (rp_pickF rfl rfl rfl)) rfl ?_
                    refine JL_val rfl (wn0 rfl) (RP.rv (rp_pickF rfl rfl rfl)) rfl ?_
                    refine JL_nil ?_
                    refine JQ_then_n ?_
                    refine J_no rfl rfl ?_
                    refine J_skip ?_
                    refine JQ_block_n ?_
                    refine JQ_then_n ?_
                    refine J_keep (l' := [(1, _), (5, _), (7, _), (8, _), (9, _), (10, _), (11, _)]) ⟨rfl, rfl, rfl, rfl, rfl, rfl, rfl, trivial⟩ ?_
                    refine J_reg ?_
                    refine JL_val rfl (wn0 rfl) (RP.rv (rp_move rfl rfl)) rfl ?_
                    refine JL_val rfl (wn0 rfl) (RP.rv (rp2 rfl rfl (fun ρ hx hy w => ex_add rfl hx hy (by omega)))) rfl ?_
                    refine JL_val rfl (wn0 rfl) (RP.rv (rp_assign rfl rfl)) rfl ?_
                    refine JL_nil ?_
                    have hsn := mwF_snoc l ra.team rb.team k hlt
                    rw [hx] at hsn
                    have e1 : mwF (l.take (k + 1)) ra.team rb.team = mwF (l.take k) ra.team rb.team := by rw [hsn]; unfold mwS; rw [if_neg (by unfold mtch; omega)]
                    exact JQ_round (k + 1) (by omega) (by omega) ⟨rfl, rfl, rfl, rfl, rfl, (by rw [e1]; rfl), (congrArg some (by go_num)), trivial⟩ (by repeat (first | exact Pk.nil _ | (refine Pk.pick (by repeat (first | exact Rm.here _ | apply Rm.there)) ?_)))
              · refine JL_nil ?_
                refine JQ_then_n ?_
                refine J_no rfl rfl ?_
                refine J_exit ?_
                refine JQ_then_x ?_
                refine JQ_then_x ?_
                refine JQ_block_y rfl ?_
                refine JQ_then_n ?_
                refine J_seq ?_
                refine J_seq ?_
                obtain rfl : k = l.length := by omega
                have hq := hmt i hi1 (by omega) (by rw [hra, hrb']; exact f1) (fun h => by rw [hra]; exact f2 h) (fun h => by rw [hra]; exact f3 h)
                rw [hra, hrb'] at hq
                rw [List.take_length]
                refine J_keep (l' := [(1, _), (5, _), (7, _), (8, _), (9, _), (10, _)]) ⟨rfl, rfl, rfl, rfl, rfl, rfl, trivial⟩ ?_
                refine J_reg ?_
                refine JL_val rfl (wn0 rfl) (RP.rv (rp_move rfl rfl)) rfl ?_
                refine JL_val rfl (wn0 rfl) (RP.rv (rp2 rfl rfl (fun ρ hx hy w => ex_geqD rfl hx hy))) rfl ?_
                refine JL_dec (fun h127 => ?_) (fun h127 => ?_)
                · refine JL_val rfl (wn0 rfl) (RP.rv (rp_move rfl rfl)) rfl ?_
                  refine JL_val rfl (wn_g rfl rfl rfl rfl) (RP.rv (rp_move rfl rfl)) rfl ?_
                  refine JL_val rfl (wn_g rfl rfl rfl rfl) (RP.rv (rp_fieldC (off' := 0) rfl rfl fa_58_0 rfl)) rfl ?_
                  refine JL_val rfl (wn_g rfl rfl rfl rfl) (rv_cell rfl rfl ag_3 (by repeat (first | exact List.Mem.head _ | apply List.Mem.tail)) (by rfl)) rfl ?_
                  refine JL_val rfl (wn_g rfl rfl rfl rfl) (RP.rv (rp2 rfl rfl (fun ρ hx hy w => ex_neqD rfl hx hy))) rfl ?_
                  refine JL_decF (fun h => h (hq.1 (by omega))) ?_
                  refine JL_val rfl (wn0 rfl) (RP.rv (rp_pickT rfl rfl rfl)) rfl ?_
                  refine JL_nil ?_
                  refine JQ_then_n ?_
                  refine J_no rfl rfl ?_
                  refine J_skip ?_
                  refine JQ_then_n ?_
                  refine J_seq ?_
                  have ya := hrb ra (by rw [← hra]; exact List.getElem_mem _)
                  have yb := hrb rb (by rw [← hrb']; exact List.getElem_mem _)
                  have z1 : 0 ≤ ra.len * rb.draws ∧ ra.len * rb.draws ≤ 60000000 * 600 := ⟨Int.mul_nonneg ya.2.1 yb.1.1, Int.mul_le_mul ya.2.2 yb.1.2 yb.1.1 (by omega)⟩
                  have z2 : 0 ≤ rb.len * ra.draws ∧ rb.len * ra.draws ≤ 60000000 * 600 := ⟨Int.mul_nonneg yb.2.1 ya.1.1, Int.mul_le_mul yb.2.2 ya.1.2 ya.1.1 (by omega)⟩
                  refine J_keep (l' := [(1, _), (5, _), (7, _), (8, _), (9, _), (10, _)]) ⟨rfl, rfl, rfl, rfl, rfl, rfl, trivial⟩ ?_
                  refine J_reg ?_
                  refine JL_val rfl (wn0 rfl) (RP.rv (rp_move rfl rfl)) rfl ?_
                  refine JL_val rfl (wn0 rfl) (RP.rv (rp2 rfl rfl (fun ρ hx hy w => ex_lssD rfl hx hy))) rfl ?_
                  refine JL_dec (fun h135 => ?_) (fun h135 => ?_)
                  · refine JL_val rfl (wn0 rfl) (RP.rv (rp_move rfl rfl)) rfl ?_
                    refine JL_val rfl (wn_g rfl rfl rfl rfl) (RP.rv (rp_fieldC (off' := 6) rfl rfl fa_58_6 rfl)) rfl ?_
                    refine JL_val rfl (wn_g rfl rfl rfl rfl) (rv_cell rfl rfl ag_3 (by repeat (first | exact List.Mem.head _ | apply List.Mem.tail)) (by rfl)) rfl ?_
                    refine JL_val rfl (wn_g rfl rfl rfl rfl) (RP.rv (rp2 rfl rfl (fun ρ hx hy w => ex_gtrD rfl hx hy))) rfl ?_
                    refine JL_dec (fun h139 => ?_) (fun h139 => ?_)
                    · refine JL_val rfl (wn0 rfl) (RP.rv (rp_pickT rfl rfl rfl)) rfl ?_
                      refine JL_val rfl (wn0 rfl) (RP.rv (rp_move rfl rfl)) rfl ?_
                      refine JL_val rfl (wn_g rfl rfl rfl rfl) (RP.rv (rp_fieldC (off' := 6) rfl rfl fa_58_6 rfl)) rfl ?_
                      refine JL_val rfl (wn_g rfl rfl rfl rfl) (rv_cell rfl rfl ag_3 (by repeat (first | exact List.Mem.head _ | apply List.Mem.tail)) (by rfl)) rfl ?_
                      refine JL_val rfl (wn_g rfl rfl rfl rfl) (RP.rv (rp2 rfl rfl (fun ρ hx hy w => ex_gtrD rfl hx hy))) rfl ?_
                      refine JL_dec (fun h144 => ?_) (fun h144 => ?_)
                      · refine JL_val rfl (wn0 rfl) (RP.rv (rp_pickT rfl rfl rfl)) rfl ?_
                        refine JL_val rfl (wn0 rfl) (RP.rv (rp_move rfl rfl)) rfl ?_
                        refine JL_val rfl (wn_g rfl rfl rfl rfl) (RP.rv (rp_fieldC (off' := 7) rfl rfl fa_58_7 rfl)) rfl ?_
                        refine JL_val rfl (wn_g rfl rfl rfl rfl) (rv_cell rfl rfl ag_3 (by repeat (first | exact List.Mem.head _ | apply List.Mem.tail)) (by rfl)) rfl ?_
                        refine JL_val rfl (wn_g rfl rfl rfl rfl) (RP.rv (rp_fieldC (off' := 6) rfl rfl fa_58_6 rfl)) rfl ?_
                        refine JL_val rfl (wn_g rfl rfl rfl rfl) (rv_cell rfl rfl ag_3 (by repeat (first | exact List.Mem.head _ | apply List.Mem.tail)) (by rfl)) rfl ?_
                        refine JL_val rfl (wn_g rfl rfl rfl rfl) (RP.rv (rp2 rfl rfl (fun ρ hx hy w => ex_mul rfl hx hy (by omega)))) rfl ?_
                        refine JL_val rfl (wn_g rfl rfl rfl rfl) (RP.rv (rp_fieldC (off' := 7) rfl rfl fa_58_7 rfl)) rfl ?_
                        refine JL_val rfl (wn_g rfl rfl rfl rfl) (rv_cell rfl rfl ag_3 (by repeat (first | exact List.Mem.head _ | apply List.Mem.tail)) (by rfl)) rfl ?_
                        refine JL_val rfl (wn_g rfl rfl rfl rfl) (RP.rv (rp_fieldC (off' := 6) rfl rfl fa_58_6 rfl)) rfl ?_
                        refine JL_val rfl (wn_g rfl rfl rfl rfl) (rv_cell rfl rfl ag_3 (by repeat (first | exact List.Mem.head _ | apply List.Mem.tail)) (by rfl)) rfl ?_
                        refine JL_val rfl (wn_g rfl rfl rfl rfl) (RP.rv (rp2 rfl rfl (fun ρ hx hy w => ex_mul rfl hx hy (by omega)))) rfl ?_
                        refine JL_val rfl (wn_g rfl rfl rfl rfl) (RP.rv (rp2 rfl rfl (fun ρ hx hy w => ex_gtrD rfl hx hy))) rfl ?_
                        refine JL_decF (by have := hq.2 (by omega) (by omega) (by omega); omega) ?_
                        refine JL_val rfl (wn0 rfl) (RP.rv (rp_pickT rfl rfl rfl)) rfl ?_
                        refine JL_nil ?_
                        refine JQ_then_n ?_
                        refine J_no rfl rfl ?_
                        refine J_skip ?_
                        refine JQ_block_n ?_
                        refine JQ_then_n ?_
                        refine J_keep (l' := [(1, _), (5, _), (7, _)]) ⟨rfl, rfl, rfl, trivial⟩ ?_
                        refine J_reg ?_
                        refine JL_val rfl (wn0 rfl) (RP.rv (rp_move rfl rfl)) rfl ?_
                        refine JL_val rfl (wn0 rfl) (RP.rv (rp2 rfl rfl (fun ρ hx hy w => ex_add rfl hx hy (by omega)))) rfl ?_
                        refine JL_val rfl (wn0 rfl) (RP.rv (rp_assign rfl rfl)) rfl ?_
                        refine JL_nil ?_
                        exact JQ_round (i + 1) ⟨by omega, by omega⟩ (by omega) ⟨rfl, rfl, (congrArg some (by go_num)), trivial⟩ (by repeat (first | exact Pk.nil _ | (refine Pk.pick (by repeat (first | exact Rm.here _ | apply Rm.there)) ?_)))
                      · refine JL_val rfl (wn0 rfl) (RP.rv (rp_pickT rfl rfl rfl)) rfl ?_
                        refine JL_val rfl (wn0 rfl) (RP.rv (rp_move rfl rfl)) rfl ?_
                        refine JL_off rfl (wn_g rfl rfl rfl rfl) rfl ?_
                        refine JL_off rfl (wn_g rfl rfl rfl rfl) rfl ?_
                        refine JL_off rfl (wn_g rfl rfl rfl rfl) rfl ?_
                        refine JL_off rfl (wn_g rfl rfl rfl rfl) rfl ?_
                        refine JL_off rfl (wn_g rfl rfl rfl rfl) rfl ?_
                        refine JL_off rfl (wn_g rfl rfl rfl rfl) rfl ?_
                        refine JL_off rfl (wn_g rfl rfl rfl rfl) rfl ?_
                        refine JL_off rfl (wn_g rfl rfl rfl rfl) rfl ?_
                        refine JL_off rfl (wn_g rfl rfl rfl rfl) rfl ?_
                        refine JL_off rfl (wn_g rfl rfl rfl rfl) rfl ?_
                        refine JL_off rfl (wn_g rfl rfl rfl rfl) rfl ?_
                        refine JL_val rfl (wn0 rfl) (RP.rv (rp_pickF rfl rfl rfl)) rfl ?_
                        refine JL_nil ?_
                        refine JQ_then_n ?_
                        refine J_no rfl rfl ?_
                        refine J_skip ?_
                        refine JQ_block_n ?_
                        refine JQ_then_n ?_
                        refine J_keep (l' := [(1, _), (5, _), (7, _)]) ⟨rfl, rfl, rfl, trivial⟩ ?_
                        refine J_reg ?_
                        refine JL_val rfl (wn0 rfl) (RP.rv (rp_move rfl rfl)) rfl ?_
                        refine JL_val rfl (wn0 rfl) (RP.rv (rp2 rfl rfl (fun ρ hx hy w => ex_add rfl hx hy (by omega)))) rfl ?_
                        refine JL_val rfl (wn0 rfl) (RP.rv (rp_assign rfl rfl)) rfl ?_
                        refine JL_nil ?_
                        exact JQ_round (i + 1) ⟨by omega, by omega⟩ (by omega) ⟨rfl, rfl, (congrArg some (by go_num)), trivial⟩ (by repeat (first | exact Pk.nil _ | (refine Pk.pick (by repeat (first | exact Rm.here _ | apply Rm.there)) ?_)))
                    · refine JL_val rfl (wn0 rfl) (RP.rv (rp_pickT rfl rfl rfl)) rfl ?_
                      refine JL_val rfl (wn0 rfl) (RP.rv (rp_move rfl rfl)) rfl ?_
                      refine JL_off rfl (wn_g rfl rfl rfl rfl) rfl ?_
                      refine JL_off rfl (wn_g rfl rfl rfl rfl) rfl ?_
                      refine JL_off rfl (wn_g rfl rfl rfl rfl) rfl ?_
                      refine JL_val rfl (wn0 rfl) (RP.rv (rp_pickF rfl rfl rfl)) rfl ?_
                      refine JL_val rfl (wn0 rfl) (RP.rv (rp_move rfl rfl)) rfl ?_
                      refine JL_off rfl (wn_g rfl rfl rfl rfl) rfl ?_
                      refine JL_off rfl (wn_g rfl rfl rfl rfl) rfl ?_
                      refine JL_off rfl (wn_g rfl rfl rfl rfl) rfl ?_
                      refine JL_off rfl (wn_g rfl rfl rfl rfl) rfl ?_
                      refine JL_off rfl (wn_g rfl rfl rfl rfl) rfl ?_
                      refine JL_off rfl (wn_g rfl rfl rfl rfl) rfl ?_
                      refine JL_off rfl (wn_g rfl rfl rfl rfl) rfl ?_
                      refine JL_off rfl (wn_g rfl rfl rfl rfl) rfl ?_
                      refine JL_off rfl (wn_g rfl rfl rfl rfl) rfl ?_
                      refine JL_off rfl (wn_g rfl rfl rfl rfl) rfl ?_
                      refine JL_off rfl (wn_g rfl rfl rfl rfl) rfl ?_
                      refine JL_val rfl (wn0 rfl) (RP.rv (rp_pickF rfl rfl rfl)) rfl ?_
                      refine JL_nil ?_
                      refine JQ_then_n ?_
                      refine J_no rfl rfl ?_
                      refine J_skip ?_
                      refine JQ_block_n ?_
                      refine JQ_then_n ?_
                      refine J_keep (l' := [(1, _), (5, _), (7, _)]) ⟨rfl, rfl, rfl, trivial⟩ ?_
                      refine J_reg ?_
                      refine JL_val rfl (wn0 rfl) (RP.rv (rp_move rfl rfl)) rfl ?_
                      refine JL_val rfl (wn0 rfl) (RP.rv (rp2 rfl rfl (fun ρ hx hy w => ex_add rfl hx hy (by omega)))) rfl ?_
                      refine JL_val rfl (wn0 rfl) (RP.rv (rp_assign rfl rfl)) rfl ?_
                      refine JL_nil ?_
                      exact JQ_round (i + 1) ⟨by omega, by omega⟩ (by omega) ⟨rfl, rfl, (congrArg some (by go_num)), trivial⟩ (by repeat (first | exact Pk.nil _ | (refine Pk.pick (by repeat (first | exact Rm.here _ | apply Rm.there)) ?_)))
                  · refine JL_val rfl (wn0 rfl) (RP.rv (rp_move rfl rfl)) rfl ?_
                    refine JL_off rfl (wn_g rfl rfl rfl rfl) rfl ?_
                    refine JL_off rfl (wn_g rfl rfl rfl rfl) rfl ?_
                    refine JL_off rfl (wn_g rfl rfl rfl rfl) rfl ?_
                    refine JL_val rfl (wn0 rfl) (RP.rv (rp_pickF rfl rfl rfl)) rfl ?_
                    refine JL_val rfl (wn0 rfl) (RP.rv (rp_move rfl rfl)) rfl ?_
                    refine JL_off rfl (wn_g rfl rfl rfl rfl) rfl ?_
                    refine JL_off rfl (wn_g rfl rfl rfl rfl) rfl ?_
                    refine JL_off rfl (wn_g rfl rfl rfl rfl) rfl ?_
                    refine JL_val rfl (wn0 rfl) (RP.rv (rp_pickF rfl rfl rfl)) rfl ?_
                    refine JL_val rfl (wn0 rfl) (RP.rv (rp_move rfl rfl)) rfl ?_
                    refine JL_off rfl (wn_g rfl rfl rfl rfl) rfl ?_
                    refine JL_off rfl (wn_g rfl rfl rfl rfl) rfl ?_
                    refine JL_off rfl (wn_g rfl rfl rfl rfl) rfl ?_
                    refine JL_off rfl (wn_g rfl rfl rfl rfl) rfl ?_
                    refine JL_off rfl (wn_g rfl rfl rfl rfl) rfl ?_
                    refine JL_off rfl (wn_g rfl rfl rfl rfl) rfl ?_
                    refine JL_off rfl (wn_g rfl rfl rfl rfl) rfl ?_
                    refine JL_off rfl (wn_g rfl rfl rfl rfl) rfl ?_
                    refine JL_off rfl (wn_g rfl rfl rfl rfl) rfl ?_
                    refine JL_off rfl (wn_g rfl rfl rfl rfl) rfl ?_
                    refine JL_off rfl (wn_g rfl rfl rfl rfl) rfl ?_
                    refine JL_val rfl (wn0 rfl) (RP.rv (rp_pickF rfl rfl rfl)) rfl ?_
                    refine JL_nil ?_
                    refine JQ_then_n ?_
                    refine J_no rfl rfl ?_
                    refine J_skip ?_
                    refine JQ_block_n ?_
                    refine JQ_then_n ?_
                    refine J_keep (l' := [(1, _), (5, _), (7, _)]) ⟨rfl, rfl, rfl, trivial⟩ ?_
                    refine J_reg ?_
                    refine JL_val rfl (wn0 rfl) (RP.rv (rp_move rfl rfl)) rfl ?_
                    refine JL_val rfl (wn0 rfl) (RP.rv (rp2 rfl rfl (fun ρ hx hy w => ex_add rfl hx hy (by omega)))) rfl ?_
                    refine JL_val rfl (wn0 rfl) (RP.rv (rp_assign rfl rfl)) rfl ?_
                    refine JL_nil ?_
                    exact JQ_round (i + 1) ⟨by omega, by omega⟩ (by omega) ⟨rfl, rfl, (congrArg some (by go_num)), trivial⟩ (by repeat (first | exact Pk.nil _ | (refine Pk.pick (by repeat (first | exact Rm.here _ | apply Rm.there)) ?_)))
                · refine JL_val rfl (wn0 rfl) (RP.rv (rp_move rfl rfl)) rfl ?_
                  refine JL_off rfl (wn_g rfl rfl rfl rfl) rfl ?_
                  refine JL_off rfl (wn_g rfl rfl rfl rfl) rfl ?_
                  refine JL_off rfl (wn_g rfl rfl rfl rfl) rfl ?_
                  refine JL_off rfl (wn_g rfl rfl rfl rfl) rfl ?_
                  refine JL_val rfl (wn0 rfl) (RP.rv (rp_pickF rfl rfl rfl)) rfl ?_
                  refine JL_nil ?_
                  refine JQ_then_n ?_
                  refine J_no rfl rfl ?_
                  refine J_skip ?_
                  refine JQ_then_n ?_
                  refine J_seq ?_
                  have ya := hrb ra (by rw [← hra]; exact List.getElem_mem _)
                  have yb := hrb rb (by rw [← hrb']; exact List.getElem_mem _)
                  have z1 : 0 ≤ ra.len * rb.draws ∧ ra.len * rb.draws ≤ 60000000 * 600 := ⟨Int.mul_nonneg ya.2.1 yb.1.1, Int.mul_le_mul ya.2.2 yb.1.2 yb.1.1 (by omega)⟩
                  have z2 : 0 ≤ rb.len * ra.draws ∧ rb.len * ra.draws ≤ 60000000 * 600 := ⟨Int.mul_nonneg yb.2.1 ya.1.1, Int.mul_le_mul yb.2.2 ya.1.2 ya.1.1 (by omega)⟩
                  refine J_keep (l' := [(1, _), (5, _), (7, _), (8, _), (9, _), (10, _)]) ⟨rfl, rfl, rfl, rfl, rfl, rfl, trivial⟩ ?_
                  refine J_reg ?_
                  refine JL_val rfl (wn0 rfl) (RP.rv (rp_move rfl rfl)) rfl ?_
                  refine JL_val rfl (wn0 rfl) (RP.rv (rp2 rfl rfl (fun ρ hx hy w => ex_lssD rfl hx hy))) rfl ?_
                  refine JL_dec (fun h135 => ?_) (fun h135 => ?_)
                  · refine JL_val rfl (wn0 rfl) (RP.rv (rp_move rfl rfl)) rfl ?_
                    refine JL_val rfl (wn_g rfl rfl rfl rfl) (RP.rv (rp_fieldC (off' := 6) rfl rfl fa_58_6 rfl)) rfl ?_
                    refine JL_val rfl (wn_g rfl rfl rfl rfl) (rv_cell rfl rfl ag_3 (by repeat (first | exact List.Mem.head _ | apply List.Mem.tail)) (by rfl)) rfl ?_
                    refine JL_val rfl (wn_g rfl rfl rfl rfl) (RP.rv (rp2 rfl rfl (fun ρ hx hy w => ex_gtrD rfl hx hy))) rfl ?_
                    refine JL_dec (fun h139 => ?_) (fun h139 => ?_)
                    · refine JL_val rfl (wn0 rfl) (RP.rv (rp_pickT rfl rfl rfl)) rfl ?_
                      refine JL_val rfl (wn0 rfl) (RP.rv (rp_move rfl rfl)) rfl ?_
                      refine JL_val rfl (wn_g rfl rfl rfl rfl) (RP.rv (rp_fieldC (off' := 6) rfl rfl fa_58_6 rfl)) rfl ?_
                      refine JL_val rfl (wn_g rfl rfl rfl rfl) (rv_cell rfl rfl ag_3 (by repeat (first | exact List.Mem.head _ | apply List.Mem.tail)) (by rfl)) rfl ?_
                      refine JL_val rfl (wn_g rfl rfl rfl rfl) (RP.rv (rp2 rfl rfl (fun ρ hx hy w => ex_gtrD rfl hx hy))) rfl ?_
                      refine JL_dec (fun h144 => ?_) (fun h144 => ?_)
                      · refine JL_val rfl (wn0 rfl) (RP.rv (rp_pickT rfl rfl rfl)) rfl ?_
                        refine JL_val rfl (wn0 rfl) (RP.rv (rp_move rfl rfl)) rfl ?_
                        refine JL_val rfl (wn_g rfl rfl rfl rfl) (RP.rv (rp_fieldC (off' := 7) rfl rfl fa_58_7 rfl)) rfl ?_
                        refine JL_val rfl (wn_g rfl rfl rfl rfl) (rv_cell rfl rfl ag_3 (by repeat (first | exact List.Mem.head _ | apply List.Mem.tail)) (by rfl)) rfl ?_
                        refine JL_val rfl (wn_g rfl rfl rfl rfl) (RP.rv (rp_fieldC (off' := 6) rfl rfl fa_58_6 rfl)) rfl ?_
                        refine JL_val rfl (wn_g rfl rfl rfl rfl) (rv_cell rfl rfl ag_3 (by repeat (first | exact List.Mem.head _ | apply List.Mem.tail)) (by rfl)) rfl ?_
                        refine JL_val rfl (wn_g rfl rfl rfl rfl) (RP.rv (rp2 rfl rfl (fun ρ hx hy w => ex_mul rfl hx hy (by omega)))) rfl ?_
                        refine JL_val rfl (wn_g rfl rfl rfl rfl) (RP.rv (rp_fieldC (off' := 7) rfl rfl fa_58_7 rfl)) rfl ?_
                        refine JL_val rfl (wn_g rfl rfl rfl rfl) (rv_cell rfl rfl ag_3 (by repeat (first | exact List.Mem.head _ | apply List.Mem.tail)) (by rfl)) rfl ?_
                        refine JL_val rfl (wn_g rfl rfl rfl rfl) (RP.rv (rp_fieldC (off' := 6) rfl rfl fa_58_6 rfl)) rfl ?_
                        refine JL_val rfl (wn_g rfl rfl rfl rfl) (rv_cell rfl rfl ag_3 (by repeat (first | exact List.Mem.head _ | apply List.Mem.tail)) (by rfl)) rfl ?_
                        refine JL_val rfl (wn_g rfl rfl rfl rfl) (RP.rv (rp2 rfl rfl (fun ρ hx hy w => ex_mul rfl hx hy (by omega)))) rfl ?_
                        refine JL_val rfl (wn_g rfl rfl rfl rfl) (RP.rv (rp2 rfl rfl (fun ρ hx hy w => ex_gtrD rfl hx hy))) rfl ?_
                        refine JL_decF (by have := hq.2 (by omega) (by omega) (by omega); omega) ?_
                        refine JL_val rfl (wn0 rfl) (RP.rv (rp_pickT rfl rfl rfl)) rfl ?_
                        refine JL_nil ?_
                        refine JQ_then_n ?_
                        refine J_no rfl rfl ?_
                        refine J_skip ?_
                        refine JQ_block_n ?_
                        refine JQ_then_n ?_
                        refine J_keep (l' := [(1, _), (5, _), (7, _)]) ⟨rfl, rfl, rfl, trivial⟩ ?_
                        refine J_reg ?_
                        refine JL_val rfl (wn0 rfl) (RP.rv (rp_move rfl rfl)) rfl ?_
                        refine JL_val rfl (wn0 rfl) (RP.rv (rp2 rfl rfl (fun ρ hx hy w => ex_add rfl hx hy (by omega)))) rfl ?_
                        refine JL_val rfl (wn0 rfl) (RP.rv (rp_assign rfl rfl)) rfl ?_
                        refine JL_nil ?_
                        exact JQ_round (i + 1) ⟨by omega, by omega⟩ (by omega) ⟨rfl, rfl, (congrArg some (by go_num)), trivial⟩ (by repeat (first | exact Pk.nil _ | (refine Pk.pick (by repeat (first | exact Rm.here _ | apply Rm.there)) ?_)))
                      · refine JL_val rfl (wn0 rfl) (RP.rv (rp_pickT rfl rfl rfl)) rfl ?_
                        refine JL_val rfl (wn0 rfl) (RP.rv (rp_move rfl rfl)) rfl ?_
                        refine JL_off rfl (wn_g rfl rfl rfl rfl) rfl ?_
                        refine JL_off rfl (wn_g rfl rfl rfl rfl) rfl ?_
                        refine JL_off rfl (wn_g rfl rfl rfl rfl) rfl ?_
                        refine JL_off rfl (wn_g rfl rfl rfl rfl) rfl ?_
                        refine JL_off rfl (wn_g rfl rfl rfl rfl) rfl ?_
                        refine JL_off rfl (wn_g rfl rfl rfl rfl) rfl ?_
                        refine JL_off rfl (wn_g rfl rfl rfl rfl) rfl ?_
                        refine JL_off rfl (wn_g rfl rfl rfl rfl) rfl ?_
                        refine JL_off rfl (wn_g rfl rfl rfl rfl) rfl ?_
                        refine JL_off rfl (wn_g rfl rfl rfl rfl) rfl ?_
                        refine JL_off rfl (wn_g rfl rfl rfl rfl) rfl ?_
                        refine JL_val rfl (wn0 rfl) (RP.rv (rp_pickF rfl rfl rfl)) rfl ?_
                        refine JL_nil ?_
                        refine JQ_then_n ?_
                        refine J_no rfl rfl ?_
                        refine J_skip ?_
                        refine JQ_block_n ?_
                        refine JQ_then_n ?_
                        refine J_keep (l' := [(1, _), (5, _), (7, _)]) ⟨rfl, rfl, rfl, trivial⟩ ?_
                        refine J_reg ?_
                        refine JL_val rfl (wn0 rfl) (RP.rv (rp_move rfl rfl)) rfl ?_
                        refine JL_val rfl (wn0 rfl) (RP.rv (rp2 rfl rfl (fun ρ hx hy w => ex_add rfl hx hy (by omega)))) rfl ?_
                        refine JL_val rfl (wn0 rfl) (RP.rv (rp_assign rfl rfl)) rfl ?_
                        refine JL_nil ?_
                        exact JQ_round (i + 1) ⟨by omega, by omega⟩ (by omega) ⟨rfl, rfl, (congrArg some (by go_num)), trivial⟩ (by repeat (first | exact Pk.nil _ | (refine Pk.pick (by repeat (first | exact Rm.here _ | apply Rm.there)) ?_)))
                    · refine JL_val rfl (wn0 rfl) (RP.rv (rp_pickT rfl rfl rfl)) rfl ?_
                      refine JL_val rfl (wn0 rfl) (RP.rv (rp_move rfl rfl)) rfl ?_
                      refine JL_off rfl (wn_g rfl rfl rfl rfl) rfl ?_
                      refine JL_off rfl (wn_g rfl rfl rfl rfl) rfl ?_
                      refine JL_off rfl (wn_g rfl rfl rfl rfl) rfl ?_
                      refine JL_val rfl (wn0 rfl) (RP.rv (rp_pickF rfl rfl rfl)) rfl ?_
                      refine JL_val rfl (wn0 rfl) (RP.rv (rp_move rfl rfl)) rfl ?_
                      refine JL_off rfl (wn_g rfl rfl rfl rfl) rfl ?_
                      refine JL_off rfl (wn_g rfl rfl rfl rfl) rfl ?_
                      refine JL_off rfl (wn_g rfl rfl rfl rfl) rfl ?_
                      refine JL_off rfl (wn_g rfl rfl rfl rfl) rfl ?_
                      refine JL_off rfl (wn_g rfl rfl rfl rfl) rfl ?_
                      refine JL_off rfl (wn_g rfl rfl rfl rfl) rfl ?_
                      refine JL_off rfl (wn_g rfl rfl rfl rfl) rfl ?_
                      refine JL_off rfl (wn_g rfl rfl rfl rfl) rfl ?_
                      refine JL_off rfl (wn_g rfl rfl rfl rfl) rfl ?_
                      refine JL_off rfl (wn_g rfl rfl rfl rfl) rfl ?_
                      refine JL_off rfl (wn_g rfl rfl rfl rfl) rfl ?_
                      refine JL_val rfl (wn0 rfl) (RP.rv (rp_pickF rfl rfl rfl)) rfl ?_
                      refine JL_nil ?_
                      refine JQ_then_n ?_
                      refine J_no rfl rfl ?_
                      refine J_skip ?_
                      refine JQ_block_n ?_
                      refine JQ_then_n ?_
                      refine J_keep (l' := [(1, _), (5, _), (7, _)]) ⟨rfl, rfl, rfl, trivial⟩ ?_
                      refine J_reg ?_
                      refine JL_val rfl (wn0 rfl) (RP.rv (rp_move rfl rfl)) rfl ?_
                      refine JL_val rfl (wn0 rfl) (RP.rv (rp2 rfl rfl (fun ρ hx hy w => ex_add rfl hx hy (by omega)))) rfl ?_
                      refine JL_val rfl (wn0 rfl) (RP.rv (rp_assign rfl rfl)) rfl ?_
                      refine JL_nil ?_
                      exact JQ_round (i + 1) ⟨by omega, by omega⟩ (by omega) ⟨rfl, rfl, (congrArg some (by go_num)), trivial⟩ (by repeat (first | exact Pk.nil _ | (refine Pk.pick (by repeat (first | exact Rm.here _ | apply Rm.there)) ?_)))
                  · refine JL_val rfl (wn0 rfl) (RP.rv (rp_move rfl rfl)) rfl ?_
                    refine JL_off rfl (wn_g rfl rfl rfl rfl) rfl ?_
                    refine JL_off rfl (wn_g rfl rfl rfl rfl) rfl ?_
                    refine JL_off rfl (wn_g rfl rfl rfl rfl) rfl ?_
                    refine JL_val rfl (wn0 rfl) (RP.rv (rp_pickF rfl rfl rfl)) rfl ?_
                    refine JL_val rfl (wn0 rfl) (RP.rv (rp_move rfl rfl)) rfl ?_
                    refine JL_off rfl (wn_g rfl rfl rfl rfl) rfl ?_
                    refine JL_off rfl (wn_g rfl rfl rfl rfl) rfl ?_
                    refine JL_off rfl (wn_g rfl rfl rfl rfl) rfl ?_
                    refine JL_val rfl (wn0 rfl) (RP.rv (rp_pickF rfl rfl rfl)) rfl ?_
                    refine JL_val rfl (wn0 rfl) (RP.rv (rp_move rfl rfl)) rfl ?_
                    refine JL_off rfl (wn_g rfl rfl rfl rfl) rfl ?_
                    refine JL_off rfl (wn_g rfl rfl rfl rfl) rfl ?_
                    refine JL_off rfl (wn_g rfl rfl rfl rfl) rfl ?_
                    refine JL_off rfl (wn_g rfl rfl rfl rfl) rfl ?_
                    refine JL_off rfl (wn_g rfl rfl rfl rfl) rfl ?_
                    refine JL_off rfl (wn_g rfl rfl rfl rfl) rfl ?_
                    refine JL_off rfl (wn_g rfl rfl rfl rfl) rfl ?_
                    refine JL_off rfl (wn_g rfl rfl rfl rfl) rfl ?_
                    refine JL_off rfl (wn_g rfl rfl rfl rfl) rfl ?_
                    refine JL_off rfl (wn_g rfl rfl rfl rfl) rfl ?_
                    refine JL_off rfl (wn_g rfl rfl rfl rfl) rfl ?_
                    refine JL_val rfl (wn0 rfl) (RP.rv (rp_pickF rfl rfl rfl)) rfl ?_
                    refine JL_nil ?_
                    refine JQ_then_n ?_
                    refine J_no rfl rfl ?_
                    refine J_skip ?_
                    refine JQ_block_n ?_
                    refine JQ_then_n ?_
                    refine J_keep (l' := [(1, _), (5, _), (7, _)]) ⟨rfl, rfl, rfl, trivial⟩ ?_
                    refine J_reg ?_
                    refine JL_val rfl (wn0 rfl) (RP.rv (rp_move rfl rfl)) rfl ?_
                    refine JL_val rfl (wn0 rfl) (RP.rv (rp2 rfl rfl (fun ρ hx hy w => ex_add rfl hx hy (by omega)))) rfl ?_
                    refine JL_val rfl (wn0 rfl) (RP.rv (rp_assign rfl rfl)) rfl ?_
                    refine JL_nil ?_
                    exact JQ_round (i + 1) ⟨by omega, by omega⟩ (by omega) ⟨rfl, rfl, (congrArg some (by go_num)), trivial⟩ (by repeat (first | exact Pk.nil _ | (refine Pk.pick (by repeat (first | exact Rm.here _ | apply Rm.there)) ?_)))
      · refine JL_nil ?_
        refine JQ_then_n ?_
        refine J_no rfl rfl ?_
        refine J_exit ?_
        refine JQ_then_x ?_
        refine JQ_then_x ?_
        refine JQ_block_y rfl ?_
        refine JQ_then_n ?_
        refine J_seq ?_
        refine J_keep (l' := []) trivial ?_
        refine J_reg ?_
        refine JL_op (wn0 rfl) (ow_callB (ec_fn rfl rfl cf_14) rfl rfl (fun w hw => awake14 w)) (fun _ _ => ?_)
        refine JL_val rfl (wn0 rfl) (RP.rv (rp_assign rfl rfl)) rfl ?_
        refine JL_nil ?_
        refine JQ_then_n ?_
        refine J_ret ?_
        refine JR_one rfl (rr_tmp rfl) ?_
        intro w' hw
        exact ⟨rfl, hw.bel⟩
end Go.Proofs.Ytlfbbofcnonhdaa
