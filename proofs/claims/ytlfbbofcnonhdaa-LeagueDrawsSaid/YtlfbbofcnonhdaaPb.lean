/- LeagueTables: the walk. -/
import Derived.Test.YtlfbbofcnonhdaaPa
import Derived.Test.YtlfbbofcnonhdaaBp
namespace Go.Proofs.Ytlfbbofcnonhdaa
open Go Go.RowKit Go.Proofs

/-- A slice as a parameter: if it is not too long it holds elements. -/
def RowP {α : Type} (k : Nat) (ec : α → List Value) (wf : α → Prop) (w : World) (A : Option Addr) (n c : Nat) : Prop := n ≤ 281474976710656 → ∃ l : List α, l.length = n ∧ Arr k ec w (.slice A n c) l ∧ ∀ s ∈ l, wf s
theorem tblP_len (T : Int) (l : List Re) : (tblP T l).length ≤ 16 ∧ (chkE T l = 0 → ((tblP T l).length : Int) = T) := by
 unfold tblP
 by_cases hc : chkE T l = 0
 ·obtain ⟨h1, -, -⟩ := chk_ok hc
  rw [if_pos hc, tblG_len, (ordP_perm l _).length_eq, allT_len]
  omega
 ·rw [if_neg hc]; exact ⟨Nat.zero_le _, fun h => absurd h hc⟩
theorem prz_chk {T : Int} {l : List Re} {pz : List Int} (h : przE T l pz = 0) : chkE T l = 0 := by
 unfold przE at h
 split at h
 ·omega
 ·omega
theorem przP_len (T : Int) (l : List Re) (pz : List Int) : (przP T l pz).length ≤ 16 ∧ (przE T l pz = 0 → ((przP T l pz).length : Int) = T) := by
 unfold przP
 by_cases hc : przE T l pz = 0
 ·obtain ⟨h1, -, -⟩ := chk_ok (prz_chk hc)
  rw [if_pos hc, tabS_len]
  omega
 ·rw [if_neg hc]; exact ⟨Nat.zero_le _, fun h => absurd h hc⟩
set_option maxRecDepth 100000 in
set_option maxHeartbeats 4000000 in
theorem Tables_law (T : Int) (A : Option Addr) (n c : Nat) (A2 : Option Addr) (n2 c2 : Nat) (w : World) (h1 : RowP 6 eR W6 w A n c) (h2 : RowP 1 eI W64 w A2 n2 c2) : Calls Try.prog 5 #[.int .i64 T, .slice A n c, .slice A2 n2 c2] w (Back (.bool true) w) := by
 refine J_enter (fun _ => False) (vs := [.int .i64 T, .slice A n c, .slice A2 n2 c2]) (k := 77) (l := [(0, .int .i64 T), (1, .slice A n c), (2, .slice A2 n2 c2)]) Try.func5 rfl rfl Try.ntmps5 rfl rfl (Wd.start _) ?_
 refine J_seq ?_
 refine J_reg ?_
 refine JN rfl rfl rfl rfl rfl ?_
 refine JL_nil ?_
 refine JQ_then_n ?_
 refine J_seq ?_
 refine J_seq ?_
 refine J_reg ?_
 refine JM rfl rfl rfl rfl rfl ?_
 refine JL_val rfl (wn0 rfl) (RP.rv (rp1 rfl (fun ρ hx w => ex_len (A := _) (c := _) rfl Try.underlying44 hx))) rfl ?_
 refine JL_val rfl (wn0 rfl) (RP.rv (rp2 rfl rfl (fun ρ hx hy w => ex_gtrD rfl hx hy))) rfl ?_
 refine JL_dec (fun h17 => ?_) (fun h17 => ?_)
 ·refine JM rfl rfl rfl rfl rfl ?_
  refine JL_off rfl (wn_g rfl rfl rfl rfl) rfl ?_
  refine JL_off rfl (wn_g rfl rfl rfl rfl) rfl ?_
  refine JL_off rfl (wn_g rfl rfl rfl rfl) rfl ?_
  refine JL_val rfl (wn0 rfl) (RP.rv (rp_pickT rfl rfl rfl)) rfl ?_
  refine JL_nil ?_
  refine JQ_then_n ?_
  refine J_yes rfl rfl ?_
  refine J_seq ?_
  refine J_keep (l' := []) trivial ?_
  refine J_reg ?_
  refine JL_op (wn0 rfl) (ow_callB (ec_fn rfl rfl cf_14) rfl rfl (fun w hw => awake14 w)) (fun _ _ => ?_)
  refine JN rfl rfl rfl rfl rfl ?_
  refine JL_nil ?_
  refine JQ_then_n ?_
  refine J_ret ?_
  refine JQ_then_r ?_
  refine JR_one rfl (rr_tmp rfl) ?_
  intro w' hw
  exact ⟨rfl, hw.bel⟩
 ·refine JM rfl rfl rfl rfl rfl ?_
  refine JL_val rfl (wn_g rfl rfl rfl rfl) (RP.rv (rp_move rfl rfl)) rfl ?_
  refine JL_val rfl (wn_g rfl rfl rfl rfl) (RP.rv (rp1 rfl (fun ρ hx w => ex_len (A := _) (c := _) rfl Try.underlying26 hx))) rfl ?_
  refine JL_val rfl (wn_g rfl rfl rfl rfl) (RP.rv (rp2 rfl rfl (fun ρ hx hy w => ex_gtrD rfl hx hy))) rfl ?_
  refine JL_dec (fun h21 => ?_) (fun h21 => ?_)
  ·refine JL_val rfl (wn0 rfl) (RP.rv (rp_pickF rfl rfl rfl)) rfl ?_
   refine JL_nil ?_
   refine JQ_then_n ?_
   refine J_yes rfl rfl ?_
   refine J_seq ?_
   refine J_keep (l' := []) trivial ?_
   refine J_reg ?_
   refine JL_op (wn0 rfl) (ow_callB (ec_fn rfl rfl cf_14) rfl rfl (fun w hw => awake14 w)) (fun _ _ => ?_)
   refine JN rfl rfl rfl rfl rfl ?_
   refine JL_nil ?_
   refine JQ_then_n ?_
   refine J_ret ?_
   refine JQ_then_r ?_
   refine JR_one rfl (rr_tmp rfl) ?_
   intro w' hw
   exact ⟨rfl, hw.bel⟩
  ·refine JL_val rfl (wn0 rfl) (RP.rv (rp_pickF rfl rfl rfl)) rfl ?_
   refine JL_nil ?_
   refine JQ_then_n ?_
   refine J_no rfl rfl ?_
   refine J_skip ?_
   refine JQ_then_n ?_
   refine J_seq ?_
   obtain ⟨l, rfl, hrow, hw6⟩ := h1 (by omega)
   obtain ⟨pz, rfl, hpz, -⟩ := h2 (by omega)
   have hlt : (tblP T l).length ≤ 281474976710656 := by have := tblP_len T l; omega
   have hlp : (przP T l pz).length ≤ 281474976710656 := by have := przP_len T l pz; omega
   refine J_keep (l' := [(0, _), (1, _), (2, _)]) ⟨rfl, rfl, rfl, trivial⟩ ?_
   refine J_reg ?_
   refine JM rfl rfl rfl rfl rfl ?_
   refine JM rfl rfl rfl rfl rfl ?_
   refine JL_opS (wn0 rfl) (ow_callSE (ec_fn rfl rfl cf_25) rfl rfl (fun w hw => Table25 T l _ w (hrow.up ER hw.bel) hw6)) (fun A27 c27 => ?_)
   refine JM rfl rfl rfl rfl rfl ?_
   refine JL_val rfl (wn0 rfl) (RP.rv (rp_run1 (f := fun u => Instr.extract u 0) (fun _ => rfl) rfl (fun _ => rfl))) rfl ?_
   refine JL_val rfl (wn0 rfl) (RP.rv (rp_run1 (f := fun u => Instr.extract u 1) (fun _ => rfl) rfl (fun _ => rfl))) rfl ?_
   refine JN rfl rfl rfl rfl rfl ?_
   refine JN rfl rfl rfl rfl rfl ?_
   refine JL_nil ?_
   refine JQ_then_n ?_
   refine J_seq ?_
   refine J_keep (l' := [(0, _), (1, _), (2, _), (7, _), (8, _)]) ⟨rfl, rfl, rfl, rfl, rfl, trivial⟩ ?_
   refine J_reg ?_
   refine JM rfl rfl rfl rfl rfl ?_
   refine JM rfl rfl rfl rfl rfl ?_
   refine JL_opS (wn0 rfl) (ow_callSE (ec_fn rfl rfl cf_26) rfl rfl (fun w hw => by have := Table26 T l _ w (hrow.up ER hw.bel) (ord_ok T l); rw [tblR_P] at this; exact this)) (fun A33 c33 => ?_)
   refine JM rfl rfl rfl rfl rfl ?_
   refine JL_val rfl (wn0 rfl) (RP.rv (rp_run1 (f := fun u => Instr.extract u 0) (fun _ => rfl) rfl (fun _ => rfl))) rfl ?_
   refine JL_val rfl (wn0 rfl) (RP.rv (rp_run1 (f := fun u => Instr.extract u 1) (fun _ => rfl) rfl (fun _ => rfl))) rfl ?_
   refine JN rfl rfl rfl rfl rfl ?_
   refine JN rfl rfl rfl rfl rfl ?_
   refine JL_nil ?_
   refine JQ_then_n ?_
   refine J_seq ?_
   refine J_keep (l' := [(0, _), (1, _), (2, _), (7, _), (8, _), (9, _), (10, _)]) ⟨rfl, rfl, rfl, rfl, rfl, rfl, rfl, trivial⟩ ?_
   refine J_reg ?_
   refine JM rfl rfl rfl rfl rfl ?_
   refine JM rfl rfl rfl rfl rfl ?_
   refine JM rfl rfl rfl rfl rfl ?_
   refine JL_opS (wn0 rfl) (ow_callSE (ec_fn rfl rfl cf_27) rfl rfl (fun w hw => Prizes27 T l pz _ _ w (hrow.up ER hw.bel) hw6 (hpz.up EI hw.bel))) (fun A40 c40 => ?_)
   refine JM rfl rfl rfl rfl rfl ?_
   refine JL_val rfl (wn0 rfl) (RP.rv (rp_run1 (f := fun u => Instr.extract u 0) (fun _ => rfl) rfl (fun _ => rfl))) rfl ?_
   refine JL_val rfl (wn0 rfl) (RP.rv (rp_run1 (f := fun u => Instr.extract u 1) (fun _ => rfl) rfl (fun _ => rfl))) rfl ?_
   refine JN rfl rfl rfl rfl rfl ?_
   refine JN rfl rfl rfl rfl rfl ?_
   refine JL_nil ?_
   refine JQ_then_n ?_
   refine J_seq ?_
   refine J_keep (l' := [(0, _), (1, _), (2, _), (7, _), (8, _), (9, _), (10, _), (11, _), (12, _)]) ⟨rfl, rfl, rfl, rfl, rfl, rfl, rfl, rfl, rfl, trivial⟩ ?_
   refine J_reg ?_
   refine JM rfl rfl rfl rfl rfl ?_
   refine JM rfl rfl rfl rfl rfl ?_
   refine JM rfl rfl rfl rfl rfl ?_
   refine JL_opS (wn0 rfl) (ow_callSE (ec_fn rfl rfl cf_28) rfl rfl (fun w hw => by have := Prizes28 T l pz _ _ w (hrow.up ER hw.bel) (hpz.up EI hw.bel) (ord_ok T l); rw [przR_P] at this; exact this)) (fun A47 c47 => ?_)
   refine JM rfl rfl rfl rfl rfl ?_
   refine JL_val rfl (wn0 rfl) (RP.rv (rp_run1 (f := fun u => Instr.extract u 0) (fun _ => rfl) rfl (fun _ => rfl))) rfl ?_
   refine JL_val rfl (wn0 rfl) (RP.rv (rp_run1 (f := fun u => Instr.extract u 1) (fun _ => rfl) rfl (fun _ => rfl))) rfl ?_
   refine JN rfl rfl rfl rfl rfl ?_
   refine JN rfl rfl rfl rfl rfl ?_
   refine JL_nil ?_
   refine JQ_then_n ?_
   refine J_seq ?_
   refine J_keep (l' := [(0, _), (1, _), (7, _), (8, _), (9, _), (10, _), (11, _), (12, _), (13, _), (14, _)]) ⟨rfl, rfl, rfl, rfl, rfl, rfl, rfl, rfl, rfl, rfl, trivial⟩ ?_
   refine J_reg ?_
   refine JM rfl rfl rfl rfl rfl ?_
   refine JM rfl rfl rfl rfl rfl ?_
   refine JL_op (wn0 rfl) (ow_callB (ec_fn rfl rfl cf_29) rfl rfl (fun w hw => Check29 T l _ w (hrow.up ER hw.bel) hw6)) (fun _ _ => ?_)
   refine JM rfl rfl rfl rfl rfl ?_
   refine JM rfl rfl rfl rfl rfl ?_
   refine JL_op (wn0 rfl) (ow_callB (ec_fn rfl rfl cf_30) rfl rfl (fun w hw => Check30 T l _ w (hrow.up ER hw.bel))) (fun _ _ => ?_)
   refine JL_val rfl (wn0 rfl) (RP.rv (rp2 rfl rfl (fun ρ hx hy w => ex_eql29 rfl hx hy))) rfl ?_
   refine JL_decT rfl ?_
   refine JM rfl rfl rfl rfl rfl ?_
   refine JL_val rfl (wn_g rfl rfl rfl rfl) (RP.rv (rp_move rfl rfl)) rfl ?_
   refine JL_val rfl (wn_g rfl rfl rfl rfl) (RP.rv (rp_move rfl rfl)) rfl ?_
   refine JL_op (wn_g rfl rfl rfl rfl) (ow_callB (ec_fn rfl rfl cf_31) rfl rfl (fun w hw => SameRows31 _ _ _ _ w (Arr.of_own EW (hw.ok (ownB 58 8 A27 (tblP T l).length c27 ((tblP T l).flatMap eW)) (by repeat (first | exact List.Mem.head _ | apply List.Mem.tail))).1 hlt) (Arr.of_own EW (hw.ok (ownB 58 8 A33 (tblP T l).length c33 ((tblP T l).flatMap eW)) (by repeat (first | exact List.Mem.head _ | apply List.Mem.tail))).1 hlt))) (fun _ _ => ?_)
   refine JL_boolT (decide_eq_true rfl) ?_
   refine JL_val rfl (wn0 rfl) (RP.rv (rp_pickT rfl rfl rfl)) rfl ?_
   refine JM rfl rfl rfl rfl rfl ?_
   refine JL_val rfl (wn_g rfl rfl rfl rfl) (RP.rv (rp_move rfl rfl)) rfl ?_
   refine JL_val rfl (wn_g rfl rfl rfl rfl) (RP.rv (rp_move rfl rfl)) rfl ?_
   refine JL_val rfl (wn_g rfl rfl rfl rfl) (RP.rv (rp2 rfl rfl (fun ρ hx hy w => ex_eql29 rfl hx hy))) rfl ?_
   refine JL_decT rfl ?_
   refine JL_val rfl (wn0 rfl) (RP.rv (rp_pickT rfl rfl rfl)) rfl ?_
   refine JM rfl rfl rfl rfl rfl ?_
   refine JL_val rfl (wn_g rfl rfl rfl rfl) (RP.rv (rp_move rfl rfl)) rfl ?_
   refine JL_val rfl (wn_g rfl rfl rfl rfl) (RP.rv (rp_move rfl rfl)) rfl ?_
   refine JL_op (wn_g rfl rfl rfl rfl) (ow_callB (ec_fn rfl rfl cf_32) rfl rfl (fun w hw => SamePairs32 _ _ _ _ w (Arr.of_own EP (hw.ok (ownB 42 2 A40 (przP T l pz).length c40 ((przP T l pz).flatMap eP)) (by repeat (first | exact List.Mem.head _ | apply List.Mem.tail))).1 hlp) (Arr.of_own EP (hw.ok (ownB 42 2 A47 (przP T l pz).length c47 ((przP T l pz).flatMap eP)) (by repeat (first | exact List.Mem.head _ | apply List.Mem.tail))).1 hlp))) (fun _ _ => ?_)
   refine JL_boolT (decide_eq_true rfl) ?_
   refine JL_val rfl (wn0 rfl) (RP.rv (rp_pickT rfl rfl rfl)) rfl ?_
   refine JM rfl rfl rfl rfl rfl ?_
   refine JL_val rfl (wn_g rfl rfl rfl rfl) (RP.rv (rp_move rfl rfl)) rfl ?_
   refine JL_val rfl (wn_g rfl rfl rfl rfl) (RP.rv (rp_move rfl rfl)) rfl ?_
   refine JL_val rfl (wn_g rfl rfl rfl rfl) (RP.rv (rp2 rfl rfl (fun ρ hx hy w => ex_eql29 rfl hx hy))) rfl ?_
   refine JL_decT rfl ?_
   refine JL_val rfl (wn0 rfl) (RP.rv (rp_pickT rfl rfl rfl)) rfl ?_
   refine JM rfl rfl rfl rfl rfl ?_
   refine JL_op (wn_g rfl rfl rfl rfl) (ow_callB (ec_fn rfl rfl cf_14) rfl rfl (fun w hw => awake14 w)) (fun _ _ => ?_)
   refine JL_val rfl (wn0 rfl) (RP.rv (rp_pickT rfl rfl rfl)) rfl ?_
   refine JN rfl rfl rfl rfl rfl ?_
   refine JL_nil ?_
   refine JQ_then_n ?_
   refine J_ret ?_
   refine JR_one rfl (rr_tmp rfl) ?_
   intro w' hw
   exact ⟨rfl, hw.bel⟩
end Go.Proofs.Ytlfbbofcnonhdaa
