/- The document on brackets: Knockout. -/
import Derived.Test.YtlfbbofcnonhdaaCb
namespace Go.Proofs.Ytlfbbofcnonhdaa
open Go Go.RowKit Go.Proofs

def lsL (a n : Nat) : List (Int × Int) := (List.range n).map fun i => ((2 : Int), ((a + i : Nat) : Int))
theorem lsL_succ (a n : Nat) : lsL a (n + 1) = lsL a n ++ [(2, ((a + n : Nat) : Int))] := by unfold lsL; rw [List.range_succ, List.map_append]; rfl
theorem lsL_len (a n : Nat) : (lsL a n).length = n := by simp [lsL]
theorem lsL_add (a q : Nat) : ∀ p, lsL a (q + p) = lsL a q ++ lsL (a + q) p
  | 0 => by simp [lsL]
  | p + 1 => by rw [← Nat.add_assoc, lsL_succ, lsL_add a q p, lsL_succ, List.append_assoc, Nat.add_assoc]
theorem evI_ls (u : List (Int × Int)) (s : EvS) : ∀ i, (evI u s i).2.2 = s.2.2 ++ lsL s.1.length i
  | 0 => by simp [evI, lsL]
  | i + 1 => by
    have h1 := (evI_len u s i).1
    show (evI u s i).2.2 ++ [(2, ((evI u s i).1.length : Int))] = _
    rw [evI_ls u s i, lsL_succ, List.append_assoc, h1]
theorem evW_stop (n f : Nat) (s : EvS) (h : ¬ n < s.2.1.length) : evW n f s = s := by
  cases f with
  | zero => rfl
  | succ f => show (if n < s.2.1.length then _ else _) = _; rw [if_neg h]
/-- A round of an event. -/
theorem evR_p {n : Nat} {s : EvS} (h : n < s.2.1.length) (hn : 1 ≤ n) : 1 ≤ evP n s.2.1 ∧ 2 * evP n s.2.1 ≤ s.2.1.length ∧ (evR n s).1.length = s.1.length + evP n s.2.1 ∧ (evR n s).2.1.length + evP n s.2.1 = s.2.1.length ∧ (evR n s).2.2 = s.2.2 ++ lsL s.1.length (evP n s.2.1) := by
  have hp : evP n s.2.1 = min (s.2.1.length / 2) (s.2.1.length - n) := rfl
  unfold evR
  generalize evP n s.2.1 = p at *
  obtain ⟨h1, h2, -⟩ := evI_len (s.2.1.drop (s.2.1.length - 2 * p)) (s.1, s.2.1.take (s.2.1.length - 2 * p), s.2.2) p
  have h3 := evI_ls (s.2.1.drop (s.2.1.length - 2 * p)) (s.1, s.2.1.take (s.2.1.length - 2 * p), s.2.2) p
  dsimp only at h1 h2 h3
  rw [List.length_take] at h2
  exact ⟨by omega, by omega, h1, by omega, h3⟩
set_option maxRecDepth 100000 in
set_option maxHeartbeats 4000000 in
theorem Knockout16 (T : Int) (tk : List Int) (v : Value) (w : World) (hrow : Arr 1 eI w v tk) : Calls Try.prog 16 #[.int .i64 T, v] w (Ret w (fun _ : BrT => True) (fun t => .tuple #[Brv (koR T tk).2.1 t.A (koR T tk).2.2.1.length t.c t.A2 (koR T tk).2.2.2.length t.c2, .int .i64 (koR T tk).1]) (BrG (koR T tk).2.2.1 (koR T tk).2.2.2)) := by
 obtain ⟨A, cap, rfl⟩ := hrow.form
 refine J_enter (fun _ => False) (vs := [.int .i64 T, .slice A tk.length cap]) (k := 168) (l := [(0, .int .i64 T), (1, .slice A tk.length cap)]) Try.func16 rfl rfl Try.ntmps16 rfl rfl (Wd.start _) ?_
 refine J_seq ?_
 refine J_reg ?_
 refine JL_op (wn0 rfl) (ow_alloc rfl rfl zv_25 rfl rfl) (fun b4 hb4 => ?_)
 refine JN rfl rfl rfl rfl rfl ?_
 refine JL_nil ?_
 refine JQ_then_n ?_
 refine J_seq ?_
 refine J_seq ?_
 refine J_reg ?_
 refine JM rfl rfl rfl rfl rfl ?_
 refine JL_op (wn0 rfl) (ow_callP (ec_fn rfl rfl cf_52) rfl rfl (fun w hw => in52 T 2 16 w)) (fun _ _ => ?_)
 refine JL_bool (fun h19 => ?_) (fun h19 => ?_)
 ·refine JL_val rfl (wn0 rfl) (RP.rv (rp1 rfl (fun ρ hx w => ex_not rfl hx))) rfl ?_
  refine JM rfl rfl rfl rfl rfl ?_
  refine JL_val rfl (wn_g rfl rfl rfl rfl) (RP.rv (rp_move rfl rfl)) rfl ?_
  refine JL_val rfl (wn_g rfl rfl rfl rfl) (RP.rv (rp1 rfl (fun ρ hx w => ex_len (A := _) (c := _) rfl Try.underlying26 hx))) rfl ?_
  refine JL_op (wn_g rfl rfl rfl rfl) (ow_callP (ec_fn rfl rfl cf_52) rfl rfl (fun w hw => in52 (tk.length : Nat) 1 3 w)) (fun _ _ => ?_)
  refine JL_bool (fun h24 => ?_) (fun h24 => ?_)
  ·refine JL_val rfl (wn_g rfl rfl rfl rfl) (RP.rv (rp1 rfl (fun ρ hx w => ex_not rfl hx))) rfl ?_
   refine JL_val rfl (wn0 rfl) (RP.rv (rp_pickF rfl rfl rfl)) rfl ?_
   refine JL_nil ?_
   refine JQ_then_n ?_
   refine J_no rfl rfl ?_
   refine J_skip ?_
   refine JQ_then_n ?_
   refine J_seq ?_
   refine J_seq ?_
   refine J_keep (l' := [(0, _), (1, _), (4, _)]) ⟨rfl, rfl, rfl, trivial⟩ ?_
   refine J_reg ?_
   refine JN rfl rfl rfl rfl rfl ?_
   refine JL_nil ?_
   refine JQ_then_n ?_
   refine J_block ?_
   have hTb := of_decide_eq_true h19
   have hlb := of_decide_eq_true h24
   refine J_loop (T := Nat) (fun j => j ≤ tk.length ∧ (tk.take j).any (koBad T) = false) (fun j => [(0, .int .i64 T), (1, .slice A tk.length cap), (4, .pointer (some ⟨b4, 0, none⟩)), (6, .int .i64 (j : Nat))]) (fun j => [cellB b4 [.int .i64 0, .slice none 0 0, .slice none 0 0] 25]) (fun j => tk.length - j) 0 ⟨Nat.zero_le _, rfl⟩ ⟨rfl, rfl, rfl, rfl, trivial⟩ (by repeat (first | exact Pk.nil _ | (refine Pk.pick (by repeat (first | exact Rm.here _ | apply Rm.there)) ?_))) ?_
   rintro j ⟨hj, hnb⟩
   refine J_seq ?_
   refine J_seq ?_
   refine J_reg ?_
   refine JM rfl rfl rfl rfl rfl ?_
   refine JM rfl rfl rfl rfl rfl ?_
   refine JL_val rfl (wn0 rfl) (RP.rv (rp1 rfl (fun ρ hx w => ex_len (A := _) (c := _) rfl Try.underlying26 hx))) rfl ?_
   refine JL_val rfl (wn0 rfl) (RP.rv (rp2 rfl rfl (fun ρ hx hy w => ex_lssD rfl hx hy))) rfl ?_
   refine JL_dec (fun h31 => ?_) (fun h31 => ?_)
   ·refine JL_nil ?_
    refine JQ_then_n ?_
    refine J_yes rfl rfl ?_
    refine J_skip ?_
    refine JQ_then_n ?_
    refine J_seq ?_
    refine J_block ?_
    refine J_seq ?_
    obtain ⟨Ag0, cg0, eg0, -, -, hA⟩ := id hrow
    injection eg0 with e1 e2 e3
    subst e1 e3
    have hlt : j < tk.length := by omega
    obtain ⟨b, p, rfl, hh⟩ := hA (by intro e; subst e; simp at hlt)
    refine J_keep (l' := [(0, _), (1, _), (4, _), (6, _)]) ⟨rfl, rfl, rfl, rfl, trivial⟩ ?_
    refine J_reg ?_
    refine JM rfl rfl rfl rfl rfl ?_
    refine JM rfl rfl rfl rfl rfl ?_
    refine JL_val rfl (wn0 rfl) (RP.rv (rp2 rfl rfl (fun ρ hx hy w => ex_indexI (k := j) rfl hx hy rfl Try.underlying26 sz_3 (by omega)))) rfl ?_
    refine JL_val rfl (wn0 rfl) (rv_hold (j := j) rfl rfl ag_3 (fun h => h) hh hlt (by omega) rfl) rfl ?_
    refine JM rfl rfl rfl rfl rfl ?_
    refine JL_op (wn0 rfl) (ow_callP (ec_fn rfl rfl cf_52) rfl rfl (fun w hw => in52 (tk[j]'hlt) 1 T w)) (fun _ _ => ?_)
    refine JL_bool (fun h39 => ?_) (fun h39 => ?_)
    ·refine JL_val rfl (wn0 rfl) (RP.rv (rp1 rfl (fun ρ hx w => ex_not rfl hx))) rfl ?_
     refine JL_nil ?_
     refine JQ_then_n ?_
     refine J_no rfl rfl ?_
     refine J_skip ?_
     refine JQ_block_n ?_
     refine JQ_then_n ?_
     refine J_keep (l' := [(0, _), (1, _), (4, _), (6, _)]) ⟨rfl, rfl, rfl, rfl, trivial⟩ ?_
     refine J_reg ?_
     refine JM rfl rfl rfl rfl rfl ?_
     refine JL_val rfl (wn0 rfl) (RP.rv (rp2 rfl rfl (fun ρ hx hy w => ex_add rfl hx hy (by omega)))) rfl ?_
     refine JN rfl rfl rfl rfl rfl ?_
     refine JL_nil ?_
     exact JQ_round (j + 1) ⟨by omega, by rw [List.take_succ_eq_append_getElem hlt, List.any_append, hnb]; simp [koBad]; exact of_decide_eq_true h39⟩ (by omega) ⟨rfl, rfl, rfl, (congrArg some (by go_num)), trivial⟩ (by repeat (first | exact Pk.nil _ | (refine Pk.pick (by repeat (first | exact Rm.here _ | apply Rm.there)) ?_)))
    ·refine JL_val rfl (wn0 rfl) (RP.rv (rp1 rfl (fun ρ hx w => ex_not rfl hx))) rfl ?_
     refine JL_nil ?_
     refine JQ_then_n ?_
     refine J_yes rfl rfl ?_
     refine J_seq ?_
     refine J_keep (l' := [(4, _)]) ⟨rfl, trivial⟩ ?_
     refine J_reg ?_
     refine JL_val rfl (wn0 rfl) (RP.rv (rp_buildC (fun us => [.int .i64 0, .slice none 0 0, .slice none 0 0]) rfl rfl (fun w => by kernel_rfl))) rfl ?_
     refine JL_op (wn0 rfl) (ow_store (cs := [_, _, _]) (vs' := [_, _, _]) rfl rfl rfl rfl rfl sz_25 rfl (by repeat (first | exact At.here _ | apply At.there)) (by rfl) (by rfl)) (fun _ _ => ?_)
     refine JN rfl rfl rfl rfl rfl ?_
     refine JL_nil ?_
     refine JQ_then_n ?_
     refine J_ret ?_
     refine JQ_block_r ?_
     refine JQ_then_r ?_
     refine JQ_then_r ?_
     refine JQ_block_r ?_
     refine JQ_then_r ?_
     refine JR_two rfl (rr_agg (cs := [_, _, _]) rfl ag_25 sz_25 (by repeat (first | exact List.Mem.head _ | apply List.Mem.tail)) (by rfl)) (rr_tmp rfl) ?_
     intro w' hw
     have e : koR T tk = (4, 0, [], []) := by unfold koR; rw [if_pos (.inr (.inr (List.any_eq_true.2 ⟨_, List.getElem_mem hlt, by unfold koBad; rw [h39]; rfl⟩)))]
     rw [e]
     exact ⟨⟨none, 0, none, 0⟩, trivial, rfl, (((hw.own0 89 2).own0 90 4).pick (by repeat (first | exact Pk.nil _ | (refine Pk.pick (by repeat (first | exact Rm.here _ | apply Rm.there)) ?_))))⟩
   ·refine JL_nil ?_
    refine JQ_then_n ?_
    refine J_no rfl rfl ?_
    refine J_exit ?_
    refine JQ_then_x ?_
    refine JQ_then_x ?_
    refine JQ_block_y rfl ?_
    refine JQ_then_n ?_
    refine J_seq ?_
    obtain rfl : j = tk.length := by omega
    rw [List.take_length] at hnb
    obtain ⟨N, rfl⟩ := Int.eq_ofNat_of_zero_le (show 0 ≤ T by omega)
    have hbad : ∀ n ∈ tk, 1 ≤ n ∧ n ≤ N := fun n hn => by
      have := List.any_eq_false.1 hnb n hn
      simpa [koBad] using this
    have hK : koR (N : Nat) tk = (match koF tk ([], seedL N, []) with | none => (2, 0, [], []) | some s => if 1 ≤ (s.1.length : Int) ∧ (s.1.length : Int) ≤ 64 then (0, ((N : Nat) : Int), s.1, s.2.2 ++ s.2.1.reverse) else (2, 0, [], [])) := by
      unfold koR; rw [if_neg (by rintro (h | h | h); exact h hTb; exact h hlb; rw [hnb] at h; cases h)]; rfl
    refine J_keep (l' := [(0, _), (1, _), (4, _)]) ⟨rfl, rfl, rfl, trivial⟩ ?_
    refine J_reg ?_
    refine JM rfl rfl rfl rfl rfl ?_
    refine JL_val rfl (wn0 rfl) (RP.rv (rp_buildC (fun us => [us.getD 0 undef, .slice none 0 0, .slice none 0 0]) rfl rfl (fun w => by kernel_rfl))) rfl ?_
    refine JL_op (wn0 rfl) (ow_alloc rfl rfl zv_25 rfl rfl) (fun b7 hb7 => ?_)
    refine JL_op (wn0 rfl) (ow_store (cs := [_, _, _]) (vs' := [_, _, _]) rfl rfl rfl rfl rfl sz_25 rfl (by repeat (first | exact At.here _ | apply At.there)) (by rfl) (by rfl)) (fun _ _ => ?_)
    refine JL_nil ?_
    refine JQ_then_n ?_
    refine J_seq ?_
    refine J_own0 89 2 ?_
    refine J_own0 90 4 ?_
    refine J_own0 89 2 ?_
    refine J_reg ?_
    refine JN rfl rfl rfl rfl rfl ?_
    refine JL_nil ?_
    refine JQ_then_n ?_
    refine J_seq ?_
    refine J_seq ?_
    refine J_reg ?_
    refine JN rfl rfl rfl rfl rfl ?_
    refine JL_nil ?_
    refine JQ_then_n ?_
    refine J_block ?_
    refine J_loop (T := Nat × Option Addr × Nat) (fun q => q.1 ≤ N) (fun q => [(0, .int .i64 (N : Nat)), (1, .slice A tk.length cap), (4, .pointer (some ⟨b4, 0, none⟩)), (7, .pointer (some ⟨b7, 0, none⟩)), (8, .slice q.2.1 (seedL q.1).length q.2.2), (9, .int .i64 (q.1 : Nat))]) (fun q => [ownB 89 2 q.2.1 (seedL q.1).length q.2.2 ((seedL q.1).flatMap eP), cellB b7 [.int .i64 (N : Nat), .slice none ([] : List Gm).length 0, .slice none ([] : List (Int × Int)).length 0] 25, cellB b4 [.int .i64 0, .slice none 0 0, .slice none 0 0] 25, ownB 90 4 none ([] : List Gm).length 0 (([] : List Gm).flatMap eG), ownB 89 2 none ([] : List (Int × Int)).length 0 (([] : List (Int × Int)).flatMap eP)]) (fun q => N - q.1) (0, none, 0) (Nat.zero_le _) ⟨rfl, rfl, rfl, rfl, rfl, rfl, trivial⟩ (by repeat (first | exact Pk.nil _ | (refine Pk.pick (by repeat (first | exact Rm.here _ | apply Rm.there)) ?_))) ?_
    rintro ⟨k, A8, c8⟩ hk
    dsimp only at hk ⊢
    refine J_seq ?_
    refine J_seq ?_
    refine J_reg ?_
    refine JM rfl rfl rfl rfl rfl ?_
    refine JM rfl rfl rfl rfl rfl ?_
    refine JL_val rfl (wn0 rfl) (RP.rv (rp2 rfl rfl (fun ρ hx hy w => ex_lssD rfl hx hy))) rfl ?_
    refine JL_dec (fun h46 => ?_) (fun h46 => ?_)
    ·refine JL_nil ?_
     refine JQ_then_n ?_
     refine J_yes rfl rfl ?_
     refine J_skip ?_
     refine JQ_then_n ?_
     refine J_seq ?_
     refine J_block ?_
     have hsl := seedL_len k
     refine J_reg ?_
     refine JM rfl rfl rfl rfl rfl ?_
     refine JM rfl rfl rfl rfl rfl ?_
     refine JL_val rfl (wn0 rfl) (RP.rv (rp_buildC (fun us => [us.getD 0 undef, us.getD 1 undef]) rfl rfl (fun w => by kernel_rfl))) rfl ?_
     refine JL_op (wn0 rfl) (ow_sliceC (vs := [_, _]) (ty := 89) rfl rfl (by rfl) rfl rfl (fun _ => by kernel_rfl)) (fun b52 hb52 => ?_)
     refine JL_opS (wn0 rfl) (ow_app1 EP (by decide) (((0 : Int), ((k : Nat) : Int))) Try.underlying23 Try.info89 rfl (by decide) rfl rfl rfl rfl rfl (by repeat (first | exact List.Mem.head _ | apply List.Mem.tail)) (by rfl) (by omega) (by intro A c; repeat (first | exact At.here _ | apply At.there))) (fun A53 c53 => ?_)
     refine JN rfl rfl rfl rfl rfl ?_
     refine JL_nil ?_
     refine JQ_block_n ?_
     refine JQ_then_n ?_
     refine J_keep (l' := [(0, _), (1, _), (4, _), (7, _), (8, _), (9, _)]) ⟨rfl, rfl, rfl, rfl, rfl, rfl, trivial⟩ ?_
     refine J_reg ?_
     refine JM rfl rfl rfl rfl rfl ?_
     refine JL_val rfl (wn0 rfl) (RP.rv (rp2 rfl rfl (fun ρ hx hy w => ex_add rfl hx hy (by omega)))) rfl ?_
     refine JN rfl rfl rfl rfl rfl ?_
     refine JL_nil ?_
     exact JQ_round (k + 1, A53, c53) (by dsimp only; omega) (by dsimp only; omega) ⟨rfl, rfl, rfl, rfl, (by rw [seedL_succ]; rfl), (congrArg some (by go_num)), trivial⟩ (by (try dsimp only); rw [seedL_succ]; repeat (first | exact Pk.nil _ | (refine Pk.pick (by repeat (first | exact Rm.here _ | apply Rm.there)) ?_)))
    ·refine JL_nil ?_
     refine JQ_then_n ?_
     refine J_no rfl rfl ?_
     refine J_exit ?_
     refine JQ_then_x ?_
     refine JQ_then_x ?_
     refine JQ_block_y rfl ?_
     refine JQ_then_n ?_
     refine J_seq ?_
     refine J_seq ?_
     refine J_keep (l' := [(1, _), (4, _), (7, _), (8, _)]) ⟨rfl, rfl, rfl, rfl, trivial⟩ ?_
     refine J_reg ?_
     refine JN rfl rfl rfl rfl rfl ?_
     refine JL_nil ?_
     refine JQ_then_n ?_
     refine J_block ?_
     obtain rfl : N = k := by omega
     have hsl := seedL_len N
     refine J_loop (T := Nat × KoT) (fun q => q.1 ≤ tk.length ∧ koF (tk.drop q.1) q.2.s = koF tk ([], seedL N, []) ∧ q.2.s.1.length ≤ 16 * q.1 ∧ q.2.s.2.1.length ≤ 16 ∧ q.2.s.2.2.length ≤ 16 * q.1) (fun q => [(1, .slice A tk.length cap), (4, .pointer (some ⟨b4, 0, none⟩)), (7, .pointer (some ⟨b7, 0, none⟩)), (8, .slice q.2.A8 q.2.s.2.1.length q.2.c8), (10, .int .i64 (q.1 : Nat))]) (fun q => [cellB b7 [.int .i64 (N : Nat), .slice q.2.Ag q.2.s.1.length q.2.cg, .slice q.2.Ar q.2.s.2.2.length q.2.cr] 25, ownB 90 4 q.2.Ag q.2.s.1.length q.2.cg (q.2.s.1.flatMap eG), ownB 89 2 q.2.A8 q.2.s.2.1.length q.2.c8 (q.2.s.2.1.flatMap eP), ownB 89 2 q.2.Ar q.2.s.2.2.length q.2.cr (q.2.s.2.2.flatMap eP), cellB b4 [.int .i64 0, .slice none 0 0, .slice none 0 0] 25]) (fun q => tk.length - q.1) (0, ⟨([], seedL N, []), none, 0, A8, c8, none, 0⟩) ⟨Nat.zero_le _, rfl, Nat.zero_le _, by dsimp only; omega, Nat.zero_le _⟩ ⟨rfl, rfl, rfl, rfl, rfl, trivial⟩ (by repeat (first | exact Pk.nil _ | (refine Pk.pick (by repeat (first | exact Rm.here _ | apply Rm.there)) ?_))) ?_
     rintro ⟨j, ⟨⟨g, a, r⟩, Ag, cg, A8, c8, Ar, cr⟩⟩ ⟨hj, hko, hb1, hb2, hb3⟩
     dsimp only at hj hko hb1 hb2 hb3 ⊢
     refine J_seq ?_
     refine J_seq ?_
     refine J_reg ?_
     refine JM rfl rfl rfl rfl rfl ?_
     refine JM rfl rfl rfl rfl rfl ?_
     refine JL_val rfl (wn0 rfl) (RP.rv (rp1 rfl (fun ρ hx w => ex_len (A := _) (c := _) rfl Try.underlying26 hx))) rfl ?_
     refine JL_val rfl (wn0 rfl) (RP.rv (rp2 rfl rfl (fun ρ hx hy w => ex_lssD rfl hx hy))) rfl ?_
     refine JL_dec (fun h57 => ?_) (fun h57 => ?_)
     ·refine JL_nil ?_
      refine JQ_then_n ?_
      refine J_yes rfl rfl ?_
      refine J_skip ?_
      refine JQ_then_n ?_
      refine J_seq ?_
      refine J_block ?_
      refine J_seq ?_
      refine J_seq ?_
      refine J_keep (l' := [(1, _), (4, _), (7, _), (8, _), (10, _)]) ⟨rfl, rfl, rfl, rfl, rfl, trivial⟩ ?_
      refine J_reg ?_
      refine JM rfl rfl rfl rfl rfl ?_
      refine JL_val rfl (wn0 rfl) (RP.rv (rp1 rfl (fun ρ hx w => ex_len (A := _) (c := _) rfl Try.underlying23 hx))) rfl ?_
      refine JL_val rfl (wn0 rfl) (RP.rv (rp2 rfl rfl (fun ρ hx hy w => ex_eqlD rfl hx hy))) rfl ?_
      refine JL_dec (fun h62 => ?_) (fun h62 => ?_)
      ·refine JL_nil ?_
       refine JQ_then_n ?_
       refine J_yes rfl rfl ?_
       refine J_seq ?_
       refine J_keep (l' := [(4, _)]) ⟨rfl, trivial⟩ ?_
       refine J_reg ?_
       refine JL_val rfl (wn0 rfl) (RP.rv (rp_buildC (fun us => [.int .i64 0, .slice none 0 0, .slice none 0 0]) rfl rfl (fun w => by kernel_rfl))) rfl ?_
       refine JL_op (wn0 rfl) (ow_store (cs := [_, _, _]) (vs' := [_, _, _]) rfl rfl rfl rfl rfl sz_25 rfl (by repeat (first | exact At.here _ | apply At.there)) (by rfl) (by rfl)) (fun _ _ => ?_)
       refine JN rfl rfl rfl rfl rfl ?_
       refine JL_nil ?_
       refine JQ_then_n ?_
       refine J_ret ?_
       refine JQ_then_r ?_
       refine JQ_block_r ?_
       refine JQ_then_r ?_
       refine JQ_then_r ?_
       refine JQ_block_r ?_
       refine JQ_then_r ?_
       refine JR_two rfl (rr_agg (cs := [_, _, _]) rfl ag_25 sz_25 (by repeat (first | exact List.Mem.head _ | apply List.Mem.tail)) (by rfl)) (rr_tmp rfl) ?_
       intro w' hw
       have hkd : tk.drop j = tk[j]'(by omega) :: tk.drop (j + 1) := List.drop_eq_getElem_cons (by omega)
       have e : koR (N : Nat) tk = (2, 0, [], []) := by
         rw [hK, ← hko, hkd]
         rw [show koF (tk[j]'(by omega) :: tk.drop (j + 1)) (g, a, r) = none from if_pos (show a.length = 0 by omega)]
       rw [e]
       exact ⟨⟨none, 0, none, 0⟩, trivial, rfl, (((hw.own0 89 2).own0 90 4).pick (by repeat (first | exact Pk.nil _ | (refine Pk.pick (by repeat (first | exact Rm.here _ | apply Rm.there)) ?_))))⟩
      ·refine JL_nil ?_
       refine JQ_then_n ?_
       refine J_no rfl rfl ?_
       refine J_skip ?_
       refine JQ_then_n ?_
       refine J_seq ?_
       refine J_reg ?_
       refine JL_val rfl (wn0 rfl) (RP.rv (rp_fieldC (off' := 1) rfl rfl fa_25_1 rfl)) rfl ?_
       refine JL_val rfl (wn0 rfl) (rv_cell rfl rfl ag_22 (by repeat (first | exact List.Mem.head _ | apply List.Mem.tail)) (by rfl)) rfl ?_
       refine JL_val rfl (wn0 rfl) (RP.rv (rp1 rfl (fun ρ hx w => ex_len (A := _) (c := _) rfl Try.underlying22 hx))) rfl ?_
       refine JN rfl rfl rfl rfl rfl ?_
       refine JL_nil ?_
       refine JQ_then_n ?_
       refine J_seq ?_
       refine J_block ?_
       have hlt : j < tk.length := by omega
       obtain ⟨Ag0, cg0, eg0, -, -, hA⟩ := id hrow
       injection eg0 with e1 e2 e3
       subst e1 e3
       obtain ⟨b, p, rfl, hh⟩ := hA (by intro e; subst e; simp at hlt)
       have hnb2 := hbad _ (List.getElem_mem hlt)
       obtain ⟨n, hn⟩ := Int.eq_ofNat_of_zero_le (show 0 ≤ tk[j]'hlt by omega)
       have hnN : (tk[j]'hlt).toNat = n := by omega
       have hn1 : 1 ≤ n := by omega
       have hkd : tk.drop j = tk[j]'hlt :: tk.drop (j + 1) := List.drop_eq_getElem_cons hlt
       refine J_loop (T := EvT) (fun q => (∃ f, q.s.2.1.length ≤ f ∧ evW n f q.s = (evW n a.length (g, a, []))) ∧ q.s.1.length + q.s.2.1.length = g.length + a.length ∧ g.length ≤ q.s.1.length ∧ q.s.2.2 = lsL g.length (q.s.1.length - g.length) ∧ 1 ≤ q.s.2.1.length) (fun q => [(1, .slice (some ⟨b, p, none⟩) tk.length cap), (4, .pointer (some ⟨b4, 0, none⟩)), (7, .pointer (some ⟨b7, 0, none⟩)), (10, .int .i64 (j : Nat)), (11, .int .i64 (g.length : Nat)), (8, .slice q.A1 q.s.2.1.length q.c1)]) (fun q => [cellB b7 [.int .i64 (N : Nat), .slice q.Ag q.s.1.length q.cg, .slice Ar r.length cr] 25, ownB 90 4 q.Ag q.s.1.length q.cg (q.s.1.flatMap eG), ownB 89 2 q.A1 q.s.2.1.length q.c1 (q.s.2.1.flatMap eP), ownB 89 2 Ar r.length cr (r.flatMap eP), cellB b4 [.int .i64 0, .slice none 0 0, .slice none 0 0] 25]) (fun q => q.s.2.1.length) ⟨(g, a, []), Ag, cg, A8, c8, none, 0⟩ ⟨⟨a.length, Nat.le_refl _, rfl⟩, rfl, Nat.le_refl _, by dsimp only; rw [Nat.sub_self]; rfl, by dsimp only; omega⟩ ⟨rfl, rfl, rfl, rfl, rfl, rfl, trivial⟩ (by repeat (first | exact Pk.nil _ | (refine Pk.pick (by repeat (first | exact Rm.here _ | apply Rm.there)) ?_))) ?_
       rintro ⟨⟨G, al, ou⟩, Ag2, cg2, A8b, c8b, z1, z2⟩ ⟨⟨fu, hfu, hev⟩, hga, hgl, hou, hal1⟩
       dsimp only at hfu hev hga hgl hou hal1 ⊢
       refine J_seq ?_
       refine J_seq ?_
       refine J_reg ?_
       refine JM rfl rfl rfl rfl rfl ?_
       refine JL_val rfl (wn0 rfl) (RP.rv (rp1 rfl (fun ρ hx w => ex_len (A := _) (c := _) rfl Try.underlying23 hx))) rfl ?_
       refine JM rfl rfl rfl rfl rfl ?_
       refine JM rfl rfl rfl rfl rfl ?_
       refine JL_val rfl (wn0 rfl) (RP.rv (rp2 rfl rfl (fun ρ hx hy w => ex_indexI (k := j) rfl hx hy rfl Try.underlying26 sz_3 (by omega)))) rfl ?_
       refine JL_val rfl (wn0 rfl) (rv_hold (j := j) rfl rfl ag_3 (fun h => h) hh hlt (by omega) (by show some (Value.int IntKind.i64 _) = _; rw [hn])) rfl ?_
       refine JL_val rfl (wn0 rfl) (RP.rv (rp2 rfl rfl (fun ρ hx hy w => ex_gtrD rfl hx hy))) rfl ?_
       refine JL_dec (fun h73 => ?_) (fun h73 => ?_)
       ·refine JL_nil ?_
        refine JQ_then_n ?_
        refine J_yes rfl rfl ?_
        refine J_skip ?_
        refine JQ_then_n ?_
        refine J_block ?_
        refine J_seq ?_
        have h73' : n < al.length := by omega
        obtain ⟨pp, hppd⟩ : ∃ q, evP n al = q := ⟨_, rfl⟩
        obtain ⟨m, hmd⟩ : ∃ q, al.length - 2 * pp = q := ⟨_, rfl⟩
        have hppm : pp = min (al.length / 2) (al.length - n) := by rw [← hppd]; rfl
        have hpi : min (((al.length : Nat) : Int) / 2) (((al.length : Nat) : Int) - ((n : Nat) : Int)) = ((pp : Nat) : Int) := by omega
        refine J_fact (fun hf => ?_)
        obtain ⟨g8, rfl⟩ := own_some (A := A8b) (ty := 89) (k := 2) (m := al.length) (c := c8b) hf (by repeat (first | exact List.Mem.head _ | apply List.Mem.tail)) (by omega)
        have hcap := own_cap (A := some ⟨g8, 0, none⟩) (ty := 89) (k := 2) (m := al.length) (c := c8b) hf (by repeat (first | exact List.Mem.head _ | apply List.Mem.tail))
        refine J_keep (l' := [(1, _), (4, _), (7, _), (8, _), (10, _), (11, _)]) ⟨rfl, rfl, rfl, rfl, rfl, rfl, trivial⟩ ?_
        refine J_reg ?_
        refine JM rfl rfl rfl rfl rfl ?_
        refine JL_val rfl (wn0 rfl) (RP.rv (rp1 rfl (fun ρ hx w => ex_len (A := _) (c := _) rfl Try.underlying23 hx))) rfl ?_
        refine JN rfl rfl rfl rfl rfl ?_
        refine JL_nil ?_
        refine JQ_then_n ?_
        refine J_seq ?_
        refine J_reg ?_
        refine JM rfl rfl rfl rfl rfl ?_
        refine JL_val rfl (wn0 rfl) (RP.rv (rp2 rfl rfl (fun ρ hx hy w => ex_quo rfl hx hy (by omega) (by omega)))) rfl ?_
        refine JM rfl rfl rfl rfl rfl ?_
        refine JM rfl rfl rfl rfl rfl ?_
        refine JM rfl rfl rfl rfl rfl ?_
        refine JL_val rfl (wn0 rfl) (RP.rv (rp2 rfl rfl (fun ρ hx hy w => ex_indexI (k := j) rfl hx hy rfl Try.underlying26 sz_3 (by omega)))) rfl ?_
        refine JL_val rfl (wn0 rfl) (rv_hold (j := j) rfl rfl ag_3 (fun h => h) hh hlt (by omega) (by show some (Value.int IntKind.i64 _) = _; rw [hn])) rfl ?_
        refine JL_val rfl (wn0 rfl) (RP.rv (rp2 rfl rfl (fun ρ hx hy w => ex_sub rfl hx hy (by omega)))) rfl ?_
        refine JL_val rfl (wn0 rfl) (RP.rv (rp2 rfl rfl (fun ρ hx hy w => ex_min rfl hx hy))) rfl ?_
        refine JN rfl rfl rfl rfl rfl ?_
        refine JL_nil ?_
        refine JQ_then_n ?_
        refine J_seq ?_
        refine J_keep (l' := [(1, _), (4, _), (7, _), (8, _), (10, _), (11, _), (12, _), (13, _)]) ⟨rfl, rfl, rfl, rfl, rfl, rfl, rfl, rfl, trivial⟩ ?_
        refine J_reg ?_
        refine JL_op (wn0 rfl) (ow_sliceC (ty := 89) rfl rfl rfl rfl rfl (fun _ => by kernel_rfl)) (fun b85 hb85 => ?_)
        refine JL_asOwn (b := b85) (ty := 89) (kk := 2) (m := 0) (by repeat (first | exact At.here _ | apply At.there)) rfl (by omega) ?_
        refine JM rfl rfl rfl rfl rfl ?_
        refine JM rfl rfl rfl rfl rfl ?_
        refine JM rfl rfl rfl rfl rfl ?_
        refine JL_val rfl (wn0 rfl) (RP.rv (rp2 rfl rfl (fun ρ hx hy w => ex_mul rfl hx hy (by omega)))) rfl ?_
        refine JL_val rfl (wn0 rfl) (RP.rv (rp2 rfl rfl (fun ρ hx hy w => ex_sub rfl hx hy (by omega)))) rfl ?_
        refine JL_val rfl (wn0 rfl) (RP.rv (rp_sliceTo (k := m) rfl rfl rfl Try.underlying23 sz_89 (by omega) (by omega))) rfl ?_
        refine JL_opS (wn0 rfl) (ow_appX (L := ([] : List (Int × Int))) (M := al.take m) EP (by decide) Try.underlying23 Try.info89 rfl (by decide) sz_89 rfl rfl rfl rfl rfl (by rw [List.length_take]; omega) (fun e => by cases e) (Nat.le_refl 0) (fun w hw => (Arr.of_own EP (hw.ok (ownB 89 2 (some ⟨g8, 0, none⟩) al.length c8b (al.flatMap eP)) (by repeat (first | exact List.Mem.head _ | apply List.Mem.tail))).1 (by omega)).takeC (by omega)) (by rw [List.length_take, List.length_nil]; omega) (by intro A c; repeat (first | exact At.here _ | apply At.there))) (fun A92 c92 => ?_)
        refine JN rfl rfl rfl rfl rfl ?_
        refine JL_nil ?_
        refine JQ_then_n ?_
        refine J_seq ?_
        refine J_seq ?_
        refine J_keep (l' := [(1, _), (4, _), (7, _), (8, _), (10, _), (11, _), (12, _), (13, _), (14, _)]) ⟨rfl, rfl, rfl, rfl, rfl, rfl, rfl, rfl, rfl, trivial⟩ ?_
        refine J_reg ?_
        refine JN rfl rfl rfl rfl rfl ?_
        refine JL_nil ?_
        refine JQ_then_n ?_
        refine J_block ?_
        refine J_loop (T := Nat × Option Addr × Nat × Option Addr × Nat) (fun q => q.1 ≤ pp) (fun q => [(1, .slice (some ⟨b, p, none⟩) tk.length cap), (4, .pointer (some ⟨b4, 0, none⟩)), (7, .pointer (some ⟨b7, 0, none⟩)), (10, .int .i64 (j : Nat)), (11, .int .i64 (g.length : Nat)), (8, .slice (some ⟨g8, 0, none⟩) al.length c8b), (12, .int .i64 (al.length : Nat)), (13, .int .i64 (pp : Nat)), (14, .slice q.2.2.2.1 (evI (al.drop m) (G, al.take m, ou) q.1).2.1.length q.2.2.2.2), (15, .int .i64 (q.1 : Nat))]) (fun q => [cellB b7 [.int .i64 (N : Nat), .slice q.2.1 (evI (al.drop m) (G, al.take m, ou) q.1).1.length q.2.2.1, .slice Ar r.length cr] 25, ownB 90 4 q.2.1 (evI (al.drop m) (G, al.take m, ou) q.1).1.length q.2.2.1 ((evI (al.drop m) (G, al.take m, ou) q.1).1.flatMap eG), ownB 89 2 q.2.2.2.1 (evI (al.drop m) (G, al.take m, ou) q.1).2.1.length q.2.2.2.2 ((evI (al.drop m) (G, al.take m, ou) q.1).2.1.flatMap eP), ownB 89 2 (some ⟨g8, 0, none⟩) al.length c8b (al.flatMap eP), ownB 89 2 Ar r.length cr (r.flatMap eP), cellB b4 [.int .i64 0, .slice none 0 0, .slice none 0 0] 25]) (fun q => pp - q.1) (0, Ag2, cg2, A92, c92) (Nat.zero_le _) ⟨rfl, rfl, rfl, rfl, rfl, rfl, rfl, (congrArg (fun z => some (Value.int .i64 z)) hpi), rfl, rfl, trivial⟩ (by repeat (first | exact Pk.nil _ | (refine Pk.pick (by repeat (first | exact Rm.here _ | apply Rm.there)) ?_))) ?_
        rintro ⟨k, Ag3, cg3, A14, c14⟩ hk
        dsimp only at hk ⊢
        refine J_seq ?_
        refine J_seq ?_
        refine J_reg ?_
        refine JM rfl rfl rfl rfl rfl ?_
        refine JM rfl rfl rfl rfl rfl ?_
        refine JL_val rfl (wn0 rfl) (RP.rv (rp2 rfl rfl (fun ρ hx hy w => ex_lssD rfl hx hy))) rfl ?_
        refine JL_dec (fun h95 => ?_) (fun h95 => ?_)
        ·refine JL_nil ?_
         refine JQ_then_n ?_
         refine J_yes rfl rfl ?_
         refine J_skip ?_
         refine JQ_then_n ?_
         refine J_seq ?_
         refine J_block ?_
         refine J_seq ?_
         have hlk : k < pp := by omega
         obtain ⟨e1, e2, e3⟩ := evI_len (al.drop m) (G, al.take m, ou) k
         dsimp only at e1 e2 e3
         have hap : (al.take m).length = m := by rw [List.length_take]; omega
         obtain ⟨u1, hu1⟩ : ∃ y, al[m + k]'(by omega) = y := ⟨_, rfl⟩
         obtain ⟨u2, hu2⟩ : ∃ y, al[al.length - 1 - k]'(by omega) = y := ⟨_, rfl⟩
         have hg1 : (al.drop m).getD k (0, 0) = u1 := by rw [List.getD_eq_getElem?_getD, List.getElem?_drop, List.getElem?_eq_getElem (by omega)]; exact hu1
         have hg2 : (al.drop m).getD ((al.drop m).length - 1 - k) (0, 0) = u2 := by
           have e9 : m + ((al.drop m).length - 1 - k) = al.length - 1 - k := by rw [List.length_drop]; omega
           rw [List.getD_eq_getElem?_getD, List.getElem?_drop, e9, List.getElem?_eq_getElem (by omega)]; exact hu2
         refine J_drawX [1] [10, 17] [ownB 89 2 (some ⟨g8, 0, none⟩) al.length c8b (al.flatMap eP)] (by repeat (first | exact Pk.nil _ | (refine Pk.pick (by repeat (first | exact Rm.here _ | apply Rm.there)) ?_))) (by kernel_rfl) ?_
         refine JA_takeP (i := 0) rfl rfl (by kernel_rfl) (by kernel_rfl) (by kernel_rfl) rfl (wn0 rfl) (rp_fieldC (off' := 1) rfl rfl fa_25_1 rfl) rfl ?_
         refine JA_takeL (i := 1) rfl rfl (by kernel_rfl) (by kernel_rfl) (by kernel_rfl) rfl rfl (by repeat (first | exact Pk.nil _ | (refine Pk.pick (by repeat (first | exact Rm.here _ | apply Rm.there)) ?_))) (wn0 rfl) (rv_cell rfl rfl ag_22 (by repeat (first | exact List.Mem.head _ | apply List.Mem.tail)) (by rfl)) rfl ?_
         refine JA_takeP (i := 2) rfl rfl (by kernel_rfl) (by kernel_rfl) (by kernel_rfl) rfl (wn0 rfl) (rp_move rfl rfl) rfl ?_
         refine JA_takeP (i := 3) rfl rfl (by kernel_rfl) (by kernel_rfl) (by kernel_rfl) rfl (wn0 rfl) (rp_move rfl rfl) rfl ?_
         refine JA_takeP (i := 4) rfl rfl (by kernel_rfl) (by kernel_rfl) (by kernel_rfl) rfl (wn0 rfl) (rp_move rfl rfl) rfl ?_
         refine JA_takeP (i := 5) rfl rfl (by kernel_rfl) (by kernel_rfl) (by kernel_rfl) rfl (wn0 rfl) (rp2 rfl rfl (fun ρ hx hy w => ex_mul rfl hx hy (by omega))) rfl ?_
         refine JA_takeP (i := 6) rfl rfl (by kernel_rfl) (by kernel_rfl) (by kernel_rfl) rfl (wn0 rfl) (rp2 rfl rfl (fun ρ hx hy w => ex_sub rfl hx hy (by omega))) rfl ?_
         refine JA_takeP (i := 7) rfl rfl (by kernel_rfl) (by kernel_rfl) (by kernel_rfl) rfl (wn0 rfl) (rp_move rfl rfl) rfl ?_
         refine JA_takeP (i := 8) rfl rfl (by kernel_rfl) (by kernel_rfl) (by kernel_rfl) rfl (wn0 rfl) (rp2 rfl rfl (fun ρ hx hy w => ex_add rfl hx hy (by omega))) rfl ?_
         refine JA_takeP (i := 9) rfl rfl (by kernel_rfl) (by kernel_rfl) (by kernel_rfl) rfl (wn0 rfl) (rp2 rfl rfl (fun ρ hx hy w => ex_indexI (k := m + k) rfl hx hy (by omega) Try.underlying23 sz_89 (by omega))) rfl ?_
         refine JA_takeX (i := 10) rfl rfl (by kernel_rfl) (by kernel_rfl) (by kernel_rfl) rfl rfl (by repeat (first | exact Pk.nil _ | (refine Pk.pick (by repeat (first | exact Rm.here _ | apply Rm.there)) ?_))) (wn0 rfl) (rv_ownaggE (j := m + k) (cs := [.int .i64 ((al.drop m).getD k (0, 0)).1, .int .i64 ((al.drop m).getD k (0, 0)).2]) EP rfl rfl ag_89 sz_89 (by repeat (first | exact List.Mem.head _ | apply List.Mem.tail)) (by omega) (by rw [hu1, hg1]; rfl)) rfl ?_
         refine JA_takeP (i := 11) rfl rfl (by kernel_rfl) (by kernel_rfl) (by kernel_rfl) rfl (wn0 rfl) (rp_move rfl rfl) rfl ?_
         refine JA_takeP (i := 12) rfl rfl (by kernel_rfl) (by kernel_rfl) (by kernel_rfl) rfl (wn0 rfl) (rp_move rfl rfl) rfl ?_
         refine JA_takeP (i := 13) rfl rfl (by kernel_rfl) (by kernel_rfl) (by kernel_rfl) rfl (wn0 rfl) (rp2 rfl rfl (fun ρ hx hy w => ex_sub rfl hx hy (by omega))) rfl ?_
         refine JA_takeP (i := 14) rfl rfl (by kernel_rfl) (by kernel_rfl) (by kernel_rfl) rfl (wn0 rfl) (rp_move rfl rfl) rfl ?_
         refine JA_takeP (i := 15) rfl rfl (by kernel_rfl) (by kernel_rfl) (by kernel_rfl) rfl (wn0 rfl) (rp2 rfl rfl (fun ρ hx hy w => ex_sub rfl hx hy (by omega))) rfl ?_
         refine JA_takeP (i := 16) rfl rfl (by kernel_rfl) (by kernel_rfl) (by kernel_rfl) rfl (wn0 rfl) (rp2 rfl rfl (fun ρ hx hy w => ex_indexI (k := al.length - 1 - k) rfl hx hy (by omega) Try.underlying23 sz_89 (by omega))) rfl ?_
         refine JA_takeX (i := 17) rfl rfl (by kernel_rfl) (by kernel_rfl) (by kernel_rfl) rfl rfl (by repeat (first | exact Pk.nil _ | (refine Pk.pick (by repeat (first | exact Rm.here _ | apply Rm.there)) ?_))) (wn0 rfl) (rv_ownaggE (j := al.length - 1 - k) (cs := [.int .i64 ((al.drop m).getD ((al.drop m).length - 1 - k) (0, 0)).1, .int .i64 ((al.drop m).getD ((al.drop m).length - 1 - k) (0, 0)).2]) EP rfl rfl ag_89 sz_89 (by repeat (first | exact List.Mem.head _ | apply List.Mem.tail)) (by omega) (by rw [hu2, hg2]; rfl)) rfl ?_
         refine JA_takeP (i := 18) rfl rfl (by kernel_rfl) (by kernel_rfl) (by kernel_rfl) rfl (wn0 rfl) (rp_buildC (fun us => [us.getD 0 undef, us.getD 1 undef]) rfl rfl (fun w => by kernel_rfl)) rfl ?_
         refine JA_one (i := 19) (by kernel_rfl) rfl (wn0 rfl) (ow_sliceC (vs := [_, _, _, _]) (ty := 90) rfl rfl (by rfl) rfl rfl (fun _ => by kernel_rfl)) trivial (fun b117 hb117 => ?_)
         refine JA_oneS (i := 20) (by kernel_rfl) rfl (wn0 rfl) (ow_app1 EG (by decide) (((al.drop m).getD k (0, 0), (al.drop m).getD ((al.drop m).length - 1 - k) (0, 0))) Try.underlying22 Try.info90 rfl (by decide) rfl rfl rfl rfl rfl (by repeat (first | exact List.Mem.head _ | apply List.Mem.tail)) (by rfl) (by omega) (by intro A c; repeat (first | exact At.here _ | apply At.there))) ⟨by kernel_rfl, .inr ⟨rfl, (by repeat (first | exact Pk.nil _ | (refine Pk.pick (by repeat (first | exact Rm.here _ | apply Rm.there)) ?_)))⟩⟩ (fun A118 c118 => ?_)
         refine JA_takeP (i := 21) rfl rfl (by kernel_rfl) (by kernel_rfl) (by kernel_rfl) rfl (wn0 rfl) (rp_fieldC (off' := 1) rfl rfl fa_25_1 rfl) rfl ?_
         refine JA_one (i := 22) (by kernel_rfl) rfl (wn0 rfl) (ow_store (cs := [_]) (vs' := [_, _, _]) rfl rfl rfl rfl rfl sz_22 rfl (by repeat (first | exact At.here _ | apply At.there)) (by rfl) (by rfl)) ⟨by kernel_rfl, .inr ⟨rfl, (by repeat (first | exact Pk.nil _ | (refine Pk.pick (by repeat (first | exact Rm.here _ | apply Rm.there)) ?_)))⟩⟩ (fun _ _ => ?_)
         refine JA_done (by kernel_rfl) ?_
         refine JQ_then_n ?_
         have hl1 : ((evI (al.drop m) (G, al.take m, ou) k).1 ++ [((al.drop m).getD k (0, 0), (al.drop m).getD ((al.drop m).length - 1 - k) (0, 0))]).length = (evI (al.drop m) (G, al.take m, ou) k).1.length + 1 := by rw [List.length_append]; rfl
         have hsub : ((((evI (al.drop m) (G, al.take m, ou) k).1 ++ [((al.drop m).getD k (0, 0), (al.drop m).getD ((al.drop m).length - 1 - k) (0, 0))]).length : Nat) : Int) - 1 = (((evI (al.drop m) (G, al.take m, ou) k).1.length : Nat) : Int) := by omega
         refine J_keep (l' := [(1, _), (4, _), (7, _), (8, _), (10, _), (11, _), (12, _), (13, _), (14, _), (15, _)]) ⟨rfl, rfl, rfl, rfl, rfl, rfl, rfl, rfl, rfl, rfl, trivial⟩ ?_
         refine J_reg ?_
         refine JM rfl rfl rfl rfl rfl ?_
         refine JL_val rfl (wn0 rfl) (RP.rv (rp_fieldC (off' := 1) rfl rfl fa_25_1 rfl)) rfl ?_
         refine JL_val rfl (wn0 rfl) (rv_cell rfl rfl ag_22 (by repeat (first | exact List.Mem.head _ | apply List.Mem.tail)) (by rfl)) rfl ?_
         refine JL_val rfl (wn0 rfl) (RP.rv (rp1 rfl (fun ρ hx w => ex_len (A := _) (c := _) rfl Try.underlying22 hx))) rfl ?_
         refine JL_val rfl (wn0 rfl) (RP.rv (rp2 rfl rfl (fun ρ hx hy w => (ex_sub rfl hx hy (by omega)).trans (by rw [hsub])))) rfl ?_
         refine JL_val rfl (wn0 rfl) (RP.rv (rp_buildC (fun us => [us.getD 0 undef, us.getD 1 undef]) rfl rfl (fun w => by kernel_rfl))) rfl ?_
         refine JL_op (wn0 rfl) (ow_sliceC (vs := [_, _]) (ty := 89) rfl rfl (by rfl) rfl rfl (fun _ => by kernel_rfl)) (fun b126 hb126 => ?_)
         refine JL_opS (wn0 rfl) (ow_app1 EP (by decide) (((1 : Int), ((evI (al.drop m) (G, al.take m, ou) k).1.length : Int))) Try.underlying23 Try.info89 rfl (by decide) rfl rfl rfl rfl rfl (by repeat (first | exact List.Mem.head _ | apply List.Mem.tail)) (by rfl) (by omega) (by intro A c; repeat (first | exact At.here _ | apply At.there))) (fun A127 c127 => ?_)
         refine JN rfl rfl rfl rfl rfl ?_
         refine JL_nil ?_
         refine JQ_block_n ?_
         refine JQ_then_n ?_
         refine J_keep (l' := [(1, _), (4, _), (7, _), (8, _), (10, _), (11, _), (12, _), (13, _), (14, _), (15, _)]) ⟨rfl, rfl, rfl, rfl, rfl, rfl, rfl, rfl, rfl, rfl, trivial⟩ ?_
         refine J_reg ?_
         refine JM rfl rfl rfl rfl rfl ?_
         refine JL_val rfl (wn0 rfl) (RP.rv (rp2 rfl rfl (fun ρ hx hy w => ex_add rfl hx hy (by omega)))) rfl ?_
         refine JN rfl rfl rfl rfl rfl ?_
         refine JL_nil ?_
         exact JQ_round (k + 1, A118, c118, A127, c127) (by dsimp only; omega) (by dsimp only; omega) ⟨rfl, rfl, rfl, rfl, rfl, rfl, rfl, rfl, rfl, (congrArg some (by go_num)), trivial⟩ (by repeat (first | exact Pk.nil _ | (refine Pk.pick (by repeat (first | exact Rm.here _ | apply Rm.there)) ?_)))
        ·refine JL_nil ?_
         refine JQ_then_n ?_
         refine J_no rfl rfl ?_
         refine J_exit ?_
         refine JQ_then_x ?_
         refine JQ_then_x ?_
         refine JQ_block_y rfl ?_
         refine JQ_then_n ?_
         refine J_keep (l' := [(1, _), (4, _), (7, _), (10, _), (11, _), (14, _)]) ⟨rfl, rfl, rfl, rfl, rfl, rfl, trivial⟩ ?_
         refine J_reg ?_
         refine JM rfl rfl rfl rfl rfl ?_
         refine JN rfl rfl rfl rfl rfl ?_
         refine JL_nil ?_
         refine JQ_block_n ?_
         obtain rfl : k = pp := by omega
         obtain ⟨f, rfl⟩ : ∃ f, fu = f + 1 := ⟨fu - 1, by omega⟩
         have hR : evR n (G, al, ou) = (evI (al.drop m) (G, al.take m, ou) k) := by unfold evR; dsimp only; rw [hppd, hmd]
         have hq := evR_p (s := (G, al, ou)) h73' hn1
         rw [hR, hppd] at hq
         obtain ⟨q1, q2, q3, q4, q5⟩ := hq
         dsimp only at q3 q4 q5
         have hev2 : evW n f (evI (al.drop m) (G, al.take m, ou) k) = (evW n a.length (g, a, [])) := by rw [← hev, ← hR]; show _ = if n < al.length then _ else _; rw [if_pos h73']
         have hou2 : (evI (al.drop m) (G, al.take m, ou) k).2.2 = lsL g.length ((evI (al.drop m) (G, al.take m, ou) k).1.length - g.length) := by
           rw [q5, q3, show G.length + k - g.length = (G.length - g.length) + k by omega, lsL_add, show g.length + (G.length - g.length) = G.length by omega, ← hou]
         exact JQ_round ⟨(evI (al.drop m) (G, al.take m, ou) k), Ag3, cg3, A14, c14, none, 0⟩ ⟨⟨f, by dsimp only; omega, hev2⟩, by dsimp only; omega, by dsimp only; omega, hou2, by dsimp only; omega⟩ (by dsimp only; omega) ⟨rfl, rfl, rfl, rfl, rfl, rfl, trivial⟩ (by repeat (first | exact Pk.nil _ | (refine Pk.pick (by repeat (first | exact Rm.here _ | apply Rm.there)) ?_)))
       ·refine JL_nil ?_
        refine JQ_then_n ?_
        refine J_no rfl rfl ?_
        refine J_exit ?_
        refine JQ_then_x ?_
        refine JQ_then_x ?_
        refine JQ_block_y rfl ?_
        refine JQ_then_n ?_
        refine J_seq ?_
        have hsl2 : ¬ n < al.length := by omega
        have hfin : (G, lsL g.length (G.length - g.length), r ++ al) = ((evW n a.length (g, a, [])).1, (evW n a.length (g, a, [])).2.2, r ++ (evW n a.length (g, a, [])).2.1) := by
          rw [← hev, evW_stop n fu _ hsl2, ← hou]
        refine J_fact (fun hf => ?_)
        obtain ⟨g8, rfl⟩ := own_some (A := A8b) (ty := 89) (k := 2) (m := al.length) (c := c8b) hf (by repeat (first | exact List.Mem.head _ | apply List.Mem.tail)) (by omega)
        refine J_keep (l' := [(1, _), (4, _), (7, _), (8, _), (10, _), (11, _)]) ⟨rfl, rfl, rfl, rfl, rfl, rfl, trivial⟩ ?_
        refine J_reg ?_
        refine JL_val rfl (wn0 rfl) (RP.rv (rp_fieldC (off' := 2) rfl rfl fa_25_2 rfl)) rfl ?_
        refine JL_val rfl (wn0 rfl) (rv_cell rfl rfl ag_23 (by repeat (first | exact List.Mem.head _ | apply List.Mem.tail)) (by rfl)) rfl ?_
        refine JM rfl rfl rfl rfl rfl ?_
        refine JL_opS (wn0 rfl) (ow_app (M := al) EP (by decide) Try.underlying23 Try.info89 rfl (by decide) rfl rfl rfl rfl rfl rfl (fun w hw => news_own (ty := 89) (k := 2) (m := al.length) (c := c8b) (by repeat (first | exact List.Mem.head _ | apply List.Mem.tail)) hw) (by omega) (by intro A c; repeat (first | exact At.here _ | apply At.there))) (fun A132 c132 => ?_)
        refine JL_val rfl (wn0 rfl) (RP.rv (rp_fieldC (off' := 2) rfl rfl fa_25_2 rfl)) rfl ?_
        refine JL_op (wn0 rfl) (ow_store (cs := [_]) (vs' := [_, _, _]) rfl rfl rfl rfl rfl sz_23 rfl (by repeat (first | exact At.here _ | apply At.there)) (by rfl) (by rfl)) (fun _ _ => ?_)
        refine JL_nil ?_
        refine JQ_then_n ?_
        refine J_seq ?_
        refine J_own0 89 2 ?_
        refine J_keep (l' := [(1, _), (4, _), (7, _), (10, _), (11, _)]) ⟨rfl, rfl, rfl, rfl, rfl, trivial⟩ ?_
        refine J_reg ?_
        refine JN rfl rfl rfl rfl rfl ?_
        refine JL_nil ?_
        refine JQ_then_n ?_
        refine J_seq ?_
        refine J_reg ?_
        refine JM rfl rfl rfl rfl rfl ?_
        refine JN rfl rfl rfl rfl rfl ?_
        refine JL_nil ?_
        refine JQ_then_n ?_
        refine J_block ?_
        refine J_loop (T := Nat × Option Addr × Nat) (fun q => q.1 ≤ G.length - g.length) (fun q => [(1, .slice (some ⟨b, p, none⟩) tk.length cap), (4, .pointer (some ⟨b4, 0, none⟩)), (7, .pointer (some ⟨b7, 0, none⟩)), (8, .slice q.2.1 (lsL g.length q.1).length q.2.2), (10, .int .i64 (j : Nat)), (16, .int .i64 (g.length + q.1 : Nat))]) (fun q => [cellB b7 [.int .i64 (N : Nat), .slice Ag2 G.length cg2, .slice A132 (r ++ al).length c132] 25, ownB 90 4 Ag2 G.length cg2 (G.flatMap eG), ownB 89 2 q.2.1 (lsL g.length q.1).length q.2.2 ((lsL g.length q.1).flatMap eP), ownB 89 2 A132 (r ++ al).length c132 ((r ++ al).flatMap eP), cellB b4 [.int .i64 0, .slice none 0 0, .slice none 0 0] 25]) (fun q => G.length - g.length - q.1) (0, none, 0) (Nat.zero_le _) ⟨rfl, rfl, rfl, rfl, rfl, rfl, trivial⟩ (by repeat (first | exact Pk.nil _ | (refine Pk.pick (by repeat (first | exact Rm.here _ | apply Rm.there)) ?_))) ?_
        rintro ⟨q, A8c, c8c⟩ hq0
        dsimp only at hq0 ⊢
        have hlsn := lsL_len g.length q
        refine J_seq ?_
        refine J_seq ?_
        refine J_reg ?_
        refine JM rfl rfl rfl rfl rfl ?_
        refine JL_val rfl (wn0 rfl) (RP.rv (rp_fieldC (off' := 1) rfl rfl fa_25_1 rfl)) rfl ?_
        refine JL_val rfl (wn0 rfl) (rv_cell rfl rfl ag_22 (by repeat (first | exact List.Mem.head _ | apply List.Mem.tail)) (by rfl)) rfl ?_
        refine JL_val rfl (wn0 rfl) (RP.rv (rp1 rfl (fun ρ hx w => ex_len (A := _) (c := _) rfl Try.underlying22 hx))) rfl ?_
        refine JL_val rfl (wn0 rfl) (RP.rv (rp2 rfl rfl (fun ρ hx hy w => ex_lssD rfl hx hy))) rfl ?_
        refine JL_dec (fun h139 => ?_) (fun h139 => ?_)
        ·refine JL_nil ?_
         refine JQ_then_n ?_
         refine J_yes rfl rfl ?_
         refine J_skip ?_
         refine JQ_then_n ?_
         refine J_seq ?_
         refine J_block ?_
         refine J_keep (l' := [(1, _), (4, _), (7, _), (8, _), (10, _), (16, _)]) ⟨rfl, rfl, rfl, rfl, rfl, rfl, trivial⟩ ?_
         refine J_reg ?_
         refine JM rfl rfl rfl rfl rfl ?_
         refine JM rfl rfl rfl rfl rfl ?_
         refine JL_val rfl (wn0 rfl) (RP.rv (rp_buildC (fun us => [us.getD 0 undef, us.getD 1 undef]) rfl rfl (fun w => by kernel_rfl))) rfl ?_
         refine JL_op (wn0 rfl) (ow_sliceC (vs := [_, _]) (ty := 89) rfl rfl (by rfl) rfl rfl (fun _ => by kernel_rfl)) (fun b145 hb145 => ?_)
         refine JL_opS (wn0 rfl) (ow_app1 EP (by decide) (((2 : Int), ((g.length + q : Nat) : Int))) Try.underlying23 Try.info89 rfl (by decide) rfl rfl rfl rfl rfl (by repeat (first | exact List.Mem.head _ | apply List.Mem.tail)) (by rfl) (by omega) (by intro A c; repeat (first | exact At.here _ | apply At.there))) (fun A146 c146 => ?_)
         refine JN rfl rfl rfl rfl rfl ?_
         refine JL_nil ?_
         refine JQ_block_n ?_
         refine JQ_then_n ?_
         refine J_keep (l' := [(1, _), (4, _), (7, _), (8, _), (10, _), (16, _)]) ⟨rfl, rfl, rfl, rfl, rfl, rfl, trivial⟩ ?_
         refine J_reg ?_
         refine JM rfl rfl rfl rfl rfl ?_
         refine JL_val rfl (wn0 rfl) (RP.rv (rp2 rfl rfl (fun ρ hx hy w => ex_add rfl hx hy (by omega)))) rfl ?_
         refine JN rfl rfl rfl rfl rfl ?_
         refine JL_nil ?_
         exact JQ_round (q + 1, A146, c146) (by dsimp only; omega) (by dsimp only; omega) ⟨rfl, rfl, rfl, (by rw [lsL_succ]; rfl), rfl, (congrArg some (by go_num)), trivial⟩ (by (try dsimp only); rw [lsL_succ]; repeat (first | exact Pk.nil _ | (refine Pk.pick (by repeat (first | exact Rm.here _ | apply Rm.there)) ?_)))
        ·refine JL_nil ?_
         refine JQ_then_n ?_
         refine J_no rfl rfl ?_
         refine J_exit ?_
         refine JQ_then_x ?_
         refine JQ_then_x ?_
         refine JQ_block_y rfl ?_
         refine JQ_block_n ?_
         refine JQ_then_n ?_
         refine J_keep (l' := [(1, _), (4, _), (7, _), (8, _), (10, _)]) ⟨rfl, rfl, rfl, rfl, rfl, trivial⟩ ?_
         refine J_reg ?_
         refine JM rfl rfl rfl rfl rfl ?_
         refine JL_val rfl (wn0 rfl) (RP.rv (rp2 rfl rfl (fun ρ hx hy w => ex_add rfl hx hy (by omega)))) rfl ?_
         refine JN rfl rfl rfl rfl rfl ?_
         refine JL_nil ?_
         have hq : q = G.length - g.length := by omega
         subst hq
         have hrl : (r ++ al).length ≤ 16 * (j + 1) := by rw [List.length_append]; omega
         exact JQ_round (j + 1, ⟨(G, lsL g.length (G.length - g.length), r ++ al), Ag2, cg2, A8c, c8c, A132, c132⟩) ⟨by dsimp only; omega, by dsimp only; rw [← hko, hkd]; show _ = if a.length = 0 then _ else _; rw [if_neg (by omega), hnN, ← hfin], by dsimp only; omega, by dsimp only; rw [lsL_len]; omega, hrl⟩ (by dsimp only; omega) ⟨rfl, rfl, rfl, rfl, (congrArg some (by go_num)), trivial⟩ (by repeat (first | exact Pk.nil _ | (refine Pk.pick (by repeat (first | exact Rm.here _ | apply Rm.there)) ?_)))
     ·refine JL_nil ?_
      refine JQ_then_n ?_
      refine J_no rfl rfl ?_
      refine J_exit ?_
      refine JQ_then_x ?_
      refine JQ_then_x ?_
      refine JQ_block_y rfl ?_
      refine JQ_then_n ?_
      refine J_seq ?_
      refine J_seq ?_
      refine J_keep (l' := [(4, _), (7, _), (8, _)]) ⟨rfl, rfl, rfl, trivial⟩ ?_
      refine J_reg ?_
      refine JM rfl rfl rfl rfl rfl ?_
      refine JL_val rfl (wn0 rfl) (RP.rv (rp1 rfl (fun ρ hx w => ex_len (A := _) (c := _) rfl Try.underlying23 hx))) rfl ?_
      refine JL_val rfl (wn0 rfl) (RP.rv (rp2 rfl rfl (fun ρ hx hy w => ex_sub rfl hx hy (by omega)))) rfl ?_
      refine JN rfl rfl rfl rfl rfl ?_
      refine JL_nil ?_
      refine JQ_then_n ?_
      refine J_block ?_
      obtain rfl : j = tk.length := by omega
      have hkd : koF (tk.drop tk.length) (g, a, r) = some (g, a, r) := by rw [List.drop_length]; rfl
      have hr0 : r = r ++ a.reverse.take 0 := by simp
      rw [hr0]
      refine J_loop (T := Nat × Option Addr × Nat) (fun q => q.1 ≤ a.length) (fun q => [(4, .pointer (some ⟨b4, 0, none⟩)), (7, .pointer (some ⟨b7, 0, none⟩)), (8, .slice A8 a.length c8), (17, .int .i64 ((a.length : Int) - 1 - (q.1 : Int)))]) (fun q => [cellB b7 [.int .i64 (N : Nat), .slice Ag g.length cg, .slice q.2.1 (r ++ a.reverse.take q.1).length q.2.2] 25, ownB 90 4 Ag g.length cg (g.flatMap eG), ownB 89 2 A8 a.length c8 (a.flatMap eP), ownB 89 2 q.2.1 (r ++ a.reverse.take q.1).length q.2.2 ((r ++ a.reverse.take q.1).flatMap eP), cellB b4 [.int .i64 0, .slice none 0 0, .slice none 0 0] 25]) (fun q => a.length - q.1) (0, Ar, cr) (Nat.zero_le _) ⟨rfl, rfl, rfl, (congrArg some (by go_num)), trivial⟩ (by repeat (first | exact Pk.nil _ | (refine Pk.pick (by repeat (first | exact Rm.here _ | apply Rm.there)) ?_))) ?_
      rintro ⟨q, Ar2, cr2⟩ hq
      dsimp only at hq ⊢
      refine J_seq ?_
      refine J_seq ?_
      refine J_reg ?_
      refine JM rfl rfl rfl rfl rfl ?_
      refine JL_val rfl (wn0 rfl) (RP.rv (rp2 rfl rfl (fun ρ hx hy w => ex_geqD rfl hx hy))) rfl ?_
      refine JL_dec (fun h151 => ?_) (fun h151 => ?_)
      ·refine JL_nil ?_
       refine JQ_then_n ?_
       refine J_yes rfl rfl ?_
       refine J_skip ?_
       refine JQ_then_n ?_
       refine J_seq ?_
       refine J_block ?_
       have hql : q < a.length := by omega
       refine J_fact (fun hf => ?_)
       obtain ⟨g8, rfl⟩ := own_some (A := A8) (ty := 89) (k := 2) (m := a.length) (c := c8) hf (by repeat (first | exact List.Mem.head _ | apply List.Mem.tail)) (by omega)
       obtain ⟨ua, hua⟩ : ∃ y, a[a.length - 1 - q]'(by omega) = y := ⟨_, rfl⟩
       have hrl : (r ++ a.reverse.take q).length ≤ 100 := by rw [List.length_append, List.length_take]; omega
       refine J_drawX [1] [5] [ownB 89 2 (some ⟨g8, 0, none⟩) a.length c8 (a.flatMap eP)] (by repeat (first | exact Pk.nil _ | (refine Pk.pick (by repeat (first | exact Rm.here _ | apply Rm.there)) ?_))) (by kernel_rfl) ?_
       refine JA_takeP (i := 0) rfl rfl (by kernel_rfl) (by kernel_rfl) (by kernel_rfl) rfl (wn0 rfl) (rp_fieldC (off' := 2) rfl rfl fa_25_2 rfl) rfl ?_
       refine JA_takeL (i := 1) rfl rfl (by kernel_rfl) (by kernel_rfl) (by kernel_rfl) rfl rfl (by repeat (first | exact Pk.nil _ | (refine Pk.pick (by repeat (first | exact Rm.here _ | apply Rm.there)) ?_))) (wn0 rfl) (rv_cell rfl rfl ag_23 (by repeat (first | exact List.Mem.head _ | apply List.Mem.tail)) (by rfl)) rfl ?_
       refine JA_takeP (i := 2) rfl rfl (by kernel_rfl) (by kernel_rfl) (by kernel_rfl) rfl (wn0 rfl) (rp_move rfl rfl) rfl ?_
       refine JA_takeP (i := 3) rfl rfl (by kernel_rfl) (by kernel_rfl) (by kernel_rfl) rfl (wn0 rfl) (rp_move rfl rfl) rfl ?_
       refine JA_takeP (i := 4) rfl rfl (by kernel_rfl) (by kernel_rfl) (by kernel_rfl) rfl (wn0 rfl) (rp2 rfl rfl (fun ρ hx hy w => ex_indexI (k := a.length - 1 - q) rfl hx hy (by omega) Try.underlying23 sz_89 (by omega))) rfl ?_
       refine JA_takeX (i := 5) rfl rfl (by kernel_rfl) (by kernel_rfl) (by kernel_rfl) rfl rfl (by repeat (first | exact Pk.nil _ | (refine Pk.pick (by repeat (first | exact Rm.here _ | apply Rm.there)) ?_))) (wn0 rfl) (rv_ownaggE (j := a.length - 1 - q) (cs := [.int .i64 ua.1, .int .i64 ua.2]) EP rfl rfl ag_89 sz_89 (by repeat (first | exact List.Mem.head _ | apply List.Mem.tail)) (by omega) (by rw [hua]; rfl)) rfl ?_
       refine JA_one (i := 6) (by kernel_rfl) rfl (wn0 rfl) (ow_sliceC (vs := [_, _]) (ty := 89) rfl rfl (by rfl) rfl rfl (fun _ => by kernel_rfl)) trivial (fun b160 hb160 => ?_)
       refine JA_oneS (i := 7) (by kernel_rfl) rfl (wn0 rfl) (ow_app1 EP (by decide) (ua) Try.underlying23 Try.info89 rfl (by decide) rfl rfl rfl rfl rfl (by repeat (first | exact List.Mem.head _ | apply List.Mem.tail)) (by rfl) (by omega) (by intro A c; repeat (first | exact At.here _ | apply At.there))) ⟨by kernel_rfl, .inr ⟨rfl, (by repeat (first | exact Pk.nil _ | (refine Pk.pick (by repeat (first | exact Rm.here _ | apply Rm.there)) ?_)))⟩⟩ (fun A161 c161 => ?_)
       refine JA_takeP (i := 8) rfl rfl (by kernel_rfl) (by kernel_rfl) (by kernel_rfl) rfl (wn0 rfl) (rp_fieldC (off' := 2) rfl rfl fa_25_2 rfl) rfl ?_
       refine JA_one (i := 9) (by kernel_rfl) rfl (wn0 rfl) (ow_store (cs := [_]) (vs' := [_, _, _]) rfl rfl rfl rfl rfl sz_23 rfl (by repeat (first | exact At.here _ | apply At.there)) (by rfl) (by rfl)) ⟨by kernel_rfl, .inr ⟨rfl, (by repeat (first | exact Pk.nil _ | (refine Pk.pick (by repeat (first | exact Rm.here _ | apply Rm.there)) ?_)))⟩⟩ (fun _ _ => ?_)
       refine JA_done (by kernel_rfl) ?_
       refine JQ_block_n ?_
       refine JQ_then_n ?_
       refine J_keep (l' := [(4, _), (7, _), (8, _), (17, _)]) ⟨rfl, rfl, rfl, rfl, trivial⟩ ?_
       refine J_reg ?_
       refine JM rfl rfl rfl rfl rfl ?_
       refine JL_val rfl (wn0 rfl) (RP.rv (rp2 rfl rfl (fun ρ hx hy w => ex_sub rfl hx hy (by omega)))) rfl ?_
       refine JN rfl rfl rfl rfl rfl ?_
       refine JL_nil ?_
       have hrv : r ++ a.reverse.take (q + 1) = r ++ a.reverse.take q ++ [a[a.length - 1 - q]'(by omega)] := by
         rw [List.take_succ_eq_append_getElem (by rw [List.length_reverse]; omega), List.getElem_reverse, List.append_assoc]
       rw [hua] at hrv
       exact JQ_round (q + 1, A161, c161) (by dsimp only; omega) (by dsimp only; omega) ⟨rfl, rfl, rfl, (congrArg some (by go_num)), trivial⟩ (by (try dsimp only); rw [hrv]; repeat (first | exact Pk.nil _ | (refine Pk.pick (by repeat (first | exact Rm.here _ | apply Rm.there)) ?_)))
      ·refine JL_nil ?_
       refine JQ_then_n ?_
       refine J_no rfl rfl ?_
       refine J_exit ?_
       refine JQ_then_x ?_
       refine JQ_then_x ?_
       refine JQ_block_y rfl ?_
       refine JQ_then_n ?_
       refine J_seq ?_
       refine J_seq ?_
       refine J_keep (l' := [(4, _), (7, _)]) ⟨rfl, rfl, trivial⟩ ?_
       refine J_reg ?_
       refine JL_val rfl (wn0 rfl) (RP.rv (rp_fieldC (off' := 1) rfl rfl fa_25_1 rfl)) rfl ?_
       refine JL_val rfl (wn0 rfl) (rv_cell rfl rfl ag_22 (by repeat (first | exact List.Mem.head _ | apply List.Mem.tail)) (by rfl)) rfl ?_
       refine JL_val rfl (wn0 rfl) (RP.rv (rp1 rfl (fun ρ hx w => ex_len (A := _) (c := _) rfl Try.underlying22 hx))) rfl ?_
       refine JL_op (wn0 rfl) (ow_callP (ec_fn rfl rfl cf_52) rfl rfl (fun w hw => in52 (g.length : Nat) 1 64 w)) (fun _ _ => ?_)
       refine JL_bool (fun h166 => ?_) (fun h166 => ?_)
       ·refine JL_val rfl (wn0 rfl) (RP.rv (rp1 rfl (fun ρ hx w => ex_not rfl hx))) rfl ?_
        refine JL_nil ?_
        refine JQ_then_n ?_
        refine J_no rfl rfl ?_
        refine J_skip ?_
        refine JQ_then_n ?_
        refine J_seq ?_
        refine J_keep (l' := [(4, _), (7, _)]) ⟨rfl, rfl, trivial⟩ ?_
        refine J_reg ?_
        refine JL_val rfl (wn0 rfl) (rv_agg (cs := [_, _, _]) rfl rfl ag_25 sz_25 (by repeat (first | exact List.Mem.head _ | apply List.Mem.tail)) (by rfl)) rfl ?_
        refine JL_op (wn0 rfl) (ow_store (cs := [_, _, _]) (vs' := [_, _, _]) rfl rfl rfl rfl rfl sz_25 rfl (by repeat (first | exact At.here _ | apply At.there)) (by rfl) (by rfl)) (fun _ _ => ?_)
        refine JN rfl rfl rfl rfl rfl ?_
        refine JL_nil ?_
        refine JQ_then_n ?_
        refine J_ret ?_
        refine JR_two rfl (rr_agg (cs := [_, _, _]) rfl ag_25 sz_25 (by repeat (first | exact List.Mem.head _ | apply List.Mem.tail)) (by rfl)) (rr_tmp rfl) ?_
        intro w' hw
        have e : koR (N : Nat) tk = (0, ((N : Nat) : Int), g, r ++ a.reverse) := by
          rw [hK, ← hko, hkd]
          exact if_pos (of_decide_eq_true h166)
        obtain rfl : q = a.length := by omega
        have hta : a.reverse.take a.length = a.reverse := by rw [← List.length_reverse, List.take_length]
        rw [hta] at hw
        rw [hta, e]
        exact ⟨⟨Ag, cg, Ar2, cr2⟩, trivial, rfl, hw.pick (by repeat (first | exact Pk.nil _ | (refine Pk.pick (by repeat (first | exact Rm.here _ | apply Rm.there)) ?_)))⟩
       ·refine JL_val rfl (wn0 rfl) (RP.rv (rp1 rfl (fun ρ hx w => ex_not rfl hx))) rfl ?_
        refine JL_nil ?_
        refine JQ_then_n ?_
        refine J_yes rfl rfl ?_
        refine J_seq ?_
        refine J_keep (l' := [(4, _)]) ⟨rfl, trivial⟩ ?_
        refine J_reg ?_
        refine JL_val rfl (wn0 rfl) (RP.rv (rp_buildC (fun us => [.int .i64 0, .slice none 0 0, .slice none 0 0]) rfl rfl (fun w => by kernel_rfl))) rfl ?_
        refine JL_op (wn0 rfl) (ow_store (cs := [_, _, _]) (vs' := [_, _, _]) rfl rfl rfl rfl rfl sz_25 rfl (by repeat (first | exact At.here _ | apply At.there)) (by rfl) (by rfl)) (fun _ _ => ?_)
        refine JN rfl rfl rfl rfl rfl ?_
        refine JL_nil ?_
        refine JQ_then_n ?_
        refine J_ret ?_
        refine JQ_then_r ?_
        refine JR_two rfl (rr_agg (cs := [_, _, _]) rfl ag_25 sz_25 (by repeat (first | exact List.Mem.head _ | apply List.Mem.tail)) (by rfl)) (rr_tmp rfl) ?_
        intro w' hw
        have e : koR (N : Nat) tk = (2, 0, [], []) := by
          rw [hK, ← hko, hkd]
          exact if_neg (of_decide_eq_false h166)
        rw [e]
        exact ⟨⟨none, 0, none, 0⟩, trivial, rfl, (((hw.own0 89 2).own0 90 4).pick (by repeat (first | exact Pk.nil _ | (refine Pk.pick (by repeat (first | exact Rm.here _ | apply Rm.there)) ?_))))⟩
  ·refine JL_val rfl (wn_g rfl rfl rfl rfl) (RP.rv (rp1 rfl (fun ρ hx w => ex_not rfl hx))) rfl ?_
   refine JL_val rfl (wn0 rfl) (RP.rv (rp_pickF rfl rfl rfl)) rfl ?_
   refine JL_nil ?_
   refine JQ_then_n ?_
   refine J_yes rfl rfl ?_
   refine J_seq ?_
   refine J_keep (l' := [(4, _)]) ⟨rfl, trivial⟩ ?_
   refine J_reg ?_
   refine JL_val rfl (wn0 rfl) (RP.rv (rp_buildC (fun us => [.int .i64 0, .slice none 0 0, .slice none 0 0]) rfl rfl (fun w => by kernel_rfl))) rfl ?_
   refine JL_op (wn0 rfl) (ow_store (cs := [_, _, _]) (vs' := [_, _, _]) rfl rfl rfl rfl rfl sz_25 rfl (by repeat (first | exact At.here _ | apply At.there)) (by rfl) (by rfl)) (fun _ _ => ?_)
   refine JN rfl rfl rfl rfl rfl ?_
   refine JL_nil ?_
   refine JQ_then_n ?_
   refine J_ret ?_
   refine JQ_then_r ?_
   refine JR_two rfl (rr_agg (cs := [_, _, _]) rfl ag_25 sz_25 (by repeat (first | exact List.Mem.head _ | apply List.Mem.tail)) (by rfl)) (rr_tmp rfl) ?_
   intro w' hw
   have e : koR T tk = (4, 0, [], []) := by unfold koR; rw [if_pos (.inr (.inl (of_decide_eq_false h24)))]
   rw [e]
   exact ⟨⟨none, 0, none, 0⟩, trivial, rfl, (((hw.own0 89 2).own0 90 4).pick (by repeat (first | exact Pk.nil _ | (refine Pk.pick (by repeat (first | exact Rm.here _ | apply Rm.there)) ?_))))⟩
 ·refine JL_val rfl (wn0 rfl) (RP.rv (rp1 rfl (fun ρ hx w => ex_not rfl hx))) rfl ?_
  refine JM rfl rfl rfl rfl rfl ?_
  refine JL_off rfl (wn_g rfl rfl rfl rfl) rfl ?_
  refine JL_off rfl (wn_g rfl rfl rfl rfl) rfl ?_
  refine JL_off rfl (wn_g rfl rfl rfl rfl) rfl ?_
  refine JL_off rfl (wn_g rfl rfl rfl rfl) rfl ?_
  refine JL_val rfl (wn0 rfl) (RP.rv (rp_pickT rfl rfl rfl)) rfl ?_
  refine JL_nil ?_
  refine JQ_then_n ?_
  refine J_yes rfl rfl ?_
  refine J_seq ?_
  refine J_keep (l' := [(4, _)]) ⟨rfl, trivial⟩ ?_
  refine J_reg ?_
  refine JL_val rfl (wn0 rfl) (RP.rv (rp_buildC (fun us => [.int .i64 0, .slice none 0 0, .slice none 0 0]) rfl rfl (fun w => by kernel_rfl))) rfl ?_
  refine JL_op (wn0 rfl) (ow_store (cs := [_, _, _]) (vs' := [_, _, _]) rfl rfl rfl rfl rfl sz_25 rfl (by repeat (first | exact At.here _ | apply At.there)) (by rfl) (by rfl)) (fun _ _ => ?_)
  refine JN rfl rfl rfl rfl rfl ?_
  refine JL_nil ?_
  refine JQ_then_n ?_
  refine J_ret ?_
  refine JQ_then_r ?_
  refine JR_two rfl (rr_agg (cs := [_, _, _]) rfl ag_25 sz_25 (by repeat (first | exact List.Mem.head _ | apply List.Mem.tail)) (by rfl)) (rr_tmp rfl) ?_
  intro w' hw
  have e : koR T tk = (4, 0, [], []) := by unfold koR; rw [if_pos (.inl (of_decide_eq_false h19))]
  rw [e]
  exact ⟨⟨none, 0, none, 0⟩, trivial, rfl, (((hw.own0 89 2).own0 90 4).pick (by repeat (first | exact Pk.nil _ | (refine Pk.pick (by repeat (first | exact Rm.here _ | apply Rm.there)) ?_))))⟩
end Go.Proofs.Ytlfbbofcnonhdaa
