import Derived.Test.YtlfbbofcnonhdaaBc
import Derived.Test.YtlfbbofcnonhdaaJe
/- Contracts of brackets: Report, Places. -/
namespace Go.Proofs.Ytlfbbofcnonhdaa
open Go Go.RowKit Go.Proofs

/-- What a report comes to. -/
def repE (G : List Gm) (m : Int → Option Int) (i r : Int) : Int := if ¬ (0 ≤ i ∧ i ≤ (G.length : Int) - 1) then 7 else if ¬ (0 ≤ r ∧ r ≤ 1) then 4 else if (m i).isSome then 8 else 0
def repM (G : List Gm) (m : Int → Option Int) (i r : Int) : Int → Option Int := if repE G m i r = 0 then upd m i r else m
theorem repM_v {G : List Gm} {m : Int → Option Int} {i r : Int} (h : ∀ i r, m i = some r → r = 0 ∨ r = 1) : ∀ j s, repM G m i r j = some s → s = 0 ∨ s = 1 := by
 intro j s hs
 unfold repM at hs
 split at hs
 ·rename_i h0
  unfold upd at hs
  split at hs
  ·cases hs
   unfold repE at h0
   split at h0
   ·omega
   ·split at h0
    ·omega
    ·omega
  ·exact h j s hs
 ·exact h j s hs
section
open Go
variable {P : Program} {n : Nat} {B : Bs} {o : Oper} {l : Sl} {H H' : List It}
theorem rv_lookR {x y : Operand} {b k : Nat} {f : Int → Option Int} {r : Option Int} {i : Int} (ho : o.op = .lookup 66 x y true) (hx : evl l x = some (.map (some b))) (hy : evl l y = some (.int .i64 i)) (hm : resB b k f ∈ H) (hi : W64 i) (hr : f i = r) : RV Try.prog n B l H o (.tuple #[.int .i64 (r.getD 0), .bool r.isSome]) := fun a w ha hw => by
 obtain ⟨n', c, -, h⟩ := (hw.ok _ hm).1
 have h' := h.look2 K3 E3 Try.underlying66 hi
 rw [hr] at h'
 unfold execOp; rw [ho]; simp only [ha.ev hx, ha.ev hy, show (Value.int IntKind.i64 i) = kI i from rfl, Sem.run_bind, h', Result.andThen_ok, Sem.run_pure]; rfl
theorem ow_putR {x y q : Operand} {b k : Nat} {f : Int → Option Int} {i r : Int} (ho : o.op = .mapUpdate 66 x y q) (hd : o.dst = none) (hx : evl l x = some (.map (some b))) (hy : evl l y = some (.int .i64 i)) (hq : evl l q = some (.int .i64 r))
  (hat : At (resB b k f) (resB b (k + 1) (upd f i r)) H H') (hi : W64 i) (hr : W64 r) (hmn : k < 1000000) : OpW Try.prog n B (some (resB b k f)) l H o (fun _ : Unit => True) (fun _ => l) (fun _ => H') :=
 OpW.of_skip hd (fun a w ha hw => by
  obtain ⟨n', c, h0, h⟩ := (hw.ok _ hat.mem).1
  obtain ⟨w', h1, h2, h3⟩ := h.put K3 E3 Try.underlying66 (by omega) hi (v := r) hr
  have hc : Chg (resB b k f) w w' := ⟨h3.os, h3.tape, h3.output, h3.size, fun k hk hnk => h3.block k hk (fun e => hnk (by injection e))⟩
  refine ⟨(), w', trivial, by unfold execOp; rw [ho]; simp only [ha.ev hx, ha.ev hy, ha.ev hq, Sem.run_bind, show (Value.int IntKind.i64 i) = kI i from rfl, show (Value.int IntKind.i64 r) = kI r from rfl, h1, Result.andThen_ok, Sem.run_pure], hw.chg hat rfl rfl hc ⟨_, _, Nat.succ_le_succ h0, h2⟩ (fun k hk => ⟨.inl hk, ?_⟩), hc⟩
  have : k = b := hk
  subst this
  exact h2.lt)
theorem JL_turn {Q : Exit → Act → World → Prop} {ops : Array Oper} {rest : List Oper} {A C : It} (ha : At A C H H') (hr : A.ro = true → C.ro = true) (hC : ∀ w, A.holds w → C.holds w) (hf : ∀ b, C.foot b → A.foot b) (h : JL P n B ops Q rest l H') : JL P n B ops Q rest l H := fun a w h1 h2 => h a w h1 (h2.turn ha hr (hC w (h2.ok A ha.mem).1) hf)
end
theorem resB_le {bm k k' : Nat} {m : Int → Option Int} {w : World} (h : (resB bm k m).holds w) (hk : k ≤ k') : (resB bm k' m).holds w := by
 obtain ⟨n, c, h0, h1⟩ := h; exact ⟨n, c, by omega, h1⟩
theorem Wd.resLe {B : Bs} {bm k k' : Nat} {m : Int → Option Int} {w : World} (h : Wd B [resB bm k m] w) (hk : k ≤ k') : Wd B [resB bm k' m] w :=
 h.turn (At.here _) (fun h => h) (resB_le (h.ok _ (by simp)).1 hk) (fun _ h => h)
set_option maxRecDepth 100000 in
set_option maxHeartbeats 4000000 in
theorem report36 (T : Int) (G : List Gm) (R : List (Int × Int)) (m : Int → Option Int) (i r : Int) (w : World) (bp bm cap cap2 k : Nat) (A A2 : Option Addr) (hp : PdF T G R w bp bm cap cap2 A A2) (ha : PdA G R bp bm A A2) (hm : (resB bm k m).holds w) (hk : k < 1000000) (hGl : G.length ≤ 64) (hi : W64 i) (hr : W64 r) : Calls Try.prog 36 #[.pointer (some ⟨bp, 0, none⟩), .int .i64 i, .int .i64 r] w (RetM (resB bm k m) (fun _ : Unit => True) (fun _ => .int .i64 (repE G m i r)) (fun _ => resB bm (k + 1) (repM G m i r)) w) := by
 refine J_enter (fun b => b = bm) (vs := [.pointer (some ⟨bp, 0, none⟩), .int .i64 i, .int .i64 r]) (k := 41) (l := [(0, .pointer (some ⟨bp, 0, none⟩)), (1, .int .i64 i), (2, .int .i64 r)]) Try.func36 rfl rfl Try.ntmps36 rfl rfl (Wd.startM (A := resB bm k m) hm (fun b hb => by cases hb; exact resB_lt hm)) ?_
 refine J_seq ?_
 refine J_reg ?_
 refine JN rfl rfl rfl rfl rfl ?_
 refine JL_nil ?_
 refine JQ_then_n ?_
 refine J_seq ?_
 refine J_block ?_
 refine J_seq ?_
 refine J_reg ?_
 refine JM rfl rfl rfl rfl rfl ?_
 refine JL_op (wn0 rfl) (ow_callB (ec_fn rfl rfl cf_73) rfl rfl (fun w hw => is73 T G R w bp bm cap cap2 A A2 (hp.upM ha hw))) (fun _ _ => ?_)
 refine JP (rp1 rfl (fun ρ hx w => ex_not rfl hx)) ?_
 refine JN rfl rfl rfl rfl rfl ?_
 refine JL_nil ?_
 refine JQ_then_n ?_
 refine J_no rfl rfl ?_
 refine J_seq ?_
 refine J_keep (l' := [(0, _), (1, _), (2, _)]) ⟨rfl, rfl, rfl, trivial⟩ ?_
 refine J_reg ?_
 refine JM rfl rfl rfl rfl rfl ?_
 refine JM rfl rfl rfl rfl rfl ?_
 refine JP (rp_nil rfl rfl) ?_
 refine JP (rp_fieldC (off' := 0) rfl rfl fa_86_0 rfl) ?_
 refine JP (rp_fieldC (off' := 1) rfl rfl fa_25_1 rfl) ?_
 refine JV (rv_old rfl rfl ag_22 ha.1 hp.c1) ?_
 refine JP (rp1 rfl (fun ρ hx w => ex_len (A := _) (c := _) rfl Try.underlying22 hx)) ?_
 refine JP (rp2 rfl rfl (fun ρ hx hy w => ex_sub rfl hx hy (by omega))) ?_
 refine JL_op (wn0 rfl) (ow_callP (ec_fn rfl rfl cf_47) rfl rfl (fun w hw => within47 i 0 ((G.length : Nat) - 1) w)) (fun _ _ => ?_)
 refine JL_bool (fun h22 => ?_) (fun h22 => ?_)
 ·refine JP (rp1 rfl (fun ρ hx w => ex_not rfl hx)) ?_
  refine JN rfl rfl rfl rfl rfl ?_
  refine JL_nil ?_
  refine JQ_then_n ?_
  refine J_no rfl rfl ?_
  refine J_seq ?_
  refine J_keep (l' := [(0, _), (1, _), (2, _)]) ⟨rfl, rfl, rfl, trivial⟩ ?_
  refine J_reg ?_
  refine JM rfl rfl rfl rfl rfl ?_
  refine JL_op (wn0 rfl) (ow_callP (ec_fn rfl rfl cf_47) rfl rfl (fun w hw => within47 r 0 1 w)) (fun _ _ => ?_)
  refine JL_bool (fun h26 => ?_) (fun h26 => ?_)
  ·refine JP (rp1 rfl (fun ρ hx w => ex_not rfl hx)) ?_
   refine JN rfl rfl rfl rfl rfl ?_
   refine JL_nil ?_
   refine JQ_then_n ?_
   refine J_no rfl rfl ?_
   refine J_skip ?_
   refine JQ_block_n ?_
   refine JQ_then_n ?_
   refine J_seq ?_
   refine J_seq ?_
   rcases hmi : m i with _ | v
   ·refine J_keep (l' := [(0, _), (1, _), (2, _)]) ⟨rfl, rfl, rfl, trivial⟩ ?_
    refine J_reg ?_
    refine JM rfl rfl rfl rfl rfl ?_
    refine JP (rp_nil rfl rfl) ?_
    refine JP (rp_fieldC (off' := 3) rfl rfl fa_86_1 rfl) ?_
    refine JV (rv_old rfl rfl ag_66 ha.1 hp.c3) ?_
    refine JM rfl rfl rfl rfl rfl ?_
    refine JV (rv_lookR (k := k) (f := m) rfl rfl rfl (by repeat constructor) hi hmi) ?_
    refine JM rfl rfl rfl rfl rfl ?_
    refine JP (rp_run1 (f := fun u => Instr.extract u 0) (fun _ => rfl) rfl (fun _ => rfl)) ?_
    refine JP (rp_run1 (f := fun u => Instr.extract u 1) (fun _ => rfl) rfl (fun _ => rfl)) ?_
    refine JN rfl rfl rfl rfl rfl ?_
    refine JN rfl rfl rfl rfl rfl ?_
    refine JL_nil ?_
    refine JQ_then_n ?_
    refine J_seq ?_
    refine J_keep (l' := [(0, _), (1, _), (2, _), (8, _)]) ⟨rfl, rfl, rfl, rfl, trivial⟩ ?_
    refine J_reg ?_
    refine JM rfl rfl rfl rfl rfl ?_
    refine JL_nil ?_
    refine JQ_then_n ?_
    refine J_no rfl rfl ?_
    refine J_skip ?_
    refine JQ_then_n ?_
    refine J_seq ?_
    refine J_reg ?_
    refine JM rfl rfl rfl rfl rfl ?_
    refine JP (rp_nil rfl rfl) ?_
    refine JP (rp_fieldC (off' := 3) rfl rfl fa_86_1 rfl) ?_
    refine JV (rv_old rfl rfl ag_66 ha.1 hp.c3) ?_
    refine JM rfl rfl rfl rfl rfl ?_
    refine JM rfl rfl rfl rfl rfl ?_
    refine JL_op (wn0 rfl) (ow_putR (k := k) (f := m) rfl rfl rfl rfl rfl (by repeat constructor) hi hr (by omega)) (fun _ _ => ?_)
    refine JL_nil ?_
    refine JQ_then_n ?_
    refine J_seq ?_
    refine J_keep (l' := []) trivial ?_
    refine J_reg ?_
    refine JN rfl rfl rfl rfl rfl ?_
    refine JL_nil ?_
    refine JQ_then_n ?_
    refine J_ret ?_
    refine JR_one rfl (rr_tmp rfl) ?_
    intro w' hw
    have e : repE G m i r = 0 := by unfold repE; rw [if_neg (fun h => h (of_decide_eq_true h22)), if_neg (fun h => h (of_decide_eq_true h26)), hmi]; rfl
    have e2 : repM G m i r = upd m i r := by unfold repM; rw [if_pos e]
    rw [e, e2]
    exact ⟨(), trivial, rfl, hw.pick (by repeat constructor)⟩
   ·refine J_keep (l' := [(0, _), (1, _), (2, _)]) ⟨rfl, rfl, rfl, trivial⟩ ?_
    refine J_reg ?_
    refine JM rfl rfl rfl rfl rfl ?_
    refine JP (rp_nil rfl rfl) ?_
    refine JP (rp_fieldC (off' := 3) rfl rfl fa_86_1 rfl) ?_
    refine JV (rv_old rfl rfl ag_66 ha.1 hp.c3) ?_
    refine JM rfl rfl rfl rfl rfl ?_
    refine JV (rv_lookR (k := k) (f := m) rfl rfl rfl (by repeat constructor) hi hmi) ?_
    refine JM rfl rfl rfl rfl rfl ?_
    refine JP (rp_run1 (f := fun u => Instr.extract u 0) (fun _ => rfl) rfl (fun _ => rfl)) ?_
    refine JP (rp_run1 (f := fun u => Instr.extract u 1) (fun _ => rfl) rfl (fun _ => rfl)) ?_
    refine JN rfl rfl rfl rfl rfl ?_
    refine JN rfl rfl rfl rfl rfl ?_
    refine JL_nil ?_
    refine JQ_then_n ?_
    refine J_seq ?_
    refine J_keep (l' := [(0, _), (1, _), (2, _), (8, _)]) ⟨rfl, rfl, rfl, rfl, trivial⟩ ?_
    refine J_reg ?_
    refine JM rfl rfl rfl rfl rfl ?_
    refine JL_nil ?_
    refine JQ_then_n ?_
    refine J_yes rfl rfl ?_
    refine J_seq ?_
    refine J_keep (l' := []) trivial ?_
    refine J_reg ?_
    refine JN rfl rfl rfl rfl rfl ?_
    refine JL_nil ?_
    refine JQ_then_n ?_
    refine J_ret ?_
    refine JQ_then_r ?_
    refine JR_one rfl (rr_tmp rfl) ?_
    intro w' hw
    have e : repE G m i r = 8 := by unfold repE; rw [if_neg (fun h => h (of_decide_eq_true h22)), if_neg (fun h => h (of_decide_eq_true h26)), hmi]; rfl
    have e2 : repM G m i r = m := by unfold repM; rw [if_neg (by rw [e]; omega)]
    rw [e, e2]
    exact ⟨(), trivial, rfl, (hw.pick (H' := [resB bm k m]) (by repeat constructor)).resLe (Nat.le_succ _)⟩
  ·refine JP (rp1 rfl (fun ρ hx w => ex_not rfl hx)) ?_
   refine JN rfl rfl rfl rfl rfl ?_
   refine JL_nil ?_
   refine JQ_then_n ?_
   refine J_yes rfl rfl ?_
   refine J_seq ?_
   refine J_keep (l' := []) trivial ?_
   refine J_reg ?_
   refine JN rfl rfl rfl rfl rfl ?_
   refine JL_nil ?_
   refine JQ_then_n ?_
   refine J_ret ?_
   refine JQ_block_r ?_
   refine JQ_then_r ?_
   refine JR_one rfl (rr_tmp rfl) ?_
   intro w' hw
   have e : repE G m i r = 4 := by unfold repE; rw [if_neg (fun h => h (of_decide_eq_true h22)), if_pos (of_decide_eq_false h26)]
   have e2 : repM G m i r = m := by unfold repM; rw [if_neg (by rw [e]; omega)]
   rw [e, e2]
   exact ⟨(), trivial, rfl, (hw.pick (H' := [resB bm k m]) (by repeat constructor)).resLe (Nat.le_succ _)⟩
 ·refine JP (rp1 rfl (fun ρ hx w => ex_not rfl hx)) ?_
  refine JN rfl rfl rfl rfl rfl ?_
  refine JL_nil ?_
  refine JQ_then_n ?_
  refine J_yes rfl rfl ?_
  refine J_seq ?_
  refine J_keep (l' := []) trivial ?_
  refine J_reg ?_
  refine JN rfl rfl rfl rfl rfl ?_
  refine JL_nil ?_
  refine JQ_then_n ?_
  refine J_ret ?_
  refine JQ_block_r ?_
  refine JQ_then_r ?_
  refine JR_one rfl (rr_tmp rfl) ?_
  intro w' hw
  have e : repE G m i r = 7 := by unfold repE; rw [if_pos (of_decide_eq_false h22)]
  have e2 : repM G m i r = m := by unfold repM; rw [if_neg (by rw [e]; omega)]
  rw [e, e2]
  exact ⟨(), trivial, rfl, (hw.pick (H' := [resB bm k m]) (by repeat constructor)).resLe (Nat.le_succ _)⟩
/-- The places. -/
def plcL (f : Int × Int → Option Int) (R : List (Int × Int)) : List Int := R.map (atM f)
theorem plcL_snoc (f : Int × Int → Option Int) (R : List (Int × Int)) (j : Nat) (h : j < R.length) : plcL f (R.take (j + 1)) = plcL f (R.take j) ++ [atM f (R[j]'h)] := by
 unfold plcL; rw [List.take_succ_eq_append_getElem h, List.map_append]; rfl
set_option maxRecDepth 100000 in
set_option maxHeartbeats 4000000 in
theorem places38 (T : Nat) (G : List Gm) (R : List (Int × Int)) (m : Int → Option Int) (w : World) (bp bm cap cap2 n0 c0 : Nat) (A A2 : Option Addr) (hp : PdF (T : Nat) G R w bp bm cap cap2 A A2) (hmp : MapF 3 3 kI W64 dI w bm n0 c0 m) (hT : T ≤ 16) (hGl : G.length ≤ 64) (hRl : R.length ≤ 16) (hG2 : ∀ g ∈ G, W2 g.1 ∧ W2 g.2) (hR2 : ∀ x ∈ R, W2 x) (hmv : ∀ i r, m i = some r → r = 0 ∨ r = 1) : Calls Try.prog 38 #[.pointer (some ⟨bp, 0, none⟩)] w (RetS 3 1 eI (plcL (tmM m T G G.length) R) w) := by
 obtain ⟨Ag, cg, eg, -, -, hA⟩ := id hp.hR
 injection eg with e1 e2 e3
 subst e1 e3
 refine J_enter (fun _ => False) (vs := [.pointer (some ⟨bp, 0, none⟩)]) (k := 29) (l := [(0, .pointer (some ⟨bp, 0, none⟩))]) Try.func38 rfl rfl Try.ntmps38 rfl rfl (Wd.start _) ?_
 refine J_seq ?_
 refine J_reg ?_
 refine JN rfl rfl rfl rfl rfl ?_
 refine JL_nil ?_
 refine JQ_then_n ?_
 refine J_seq ?_
 refine J_seq ?_
 refine J_reg ?_
 refine JM rfl rfl rfl rfl rfl ?_
 refine JL_op (wn0 rfl) (ow_callB (ec_fn rfl rfl cf_73) rfl rfl (fun w hw => is73 T G R w bp bm cap cap2 A A2 (hp.up hw.bel))) (fun _ _ => ?_)
 refine JP (rp1 rfl (fun ρ hx w => ex_not rfl hx)) ?_
 refine JL_nil ?_
 refine JQ_then_n ?_
 refine J_no rfl rfl ?_
 refine J_skip ?_
 refine JQ_then_n ?_
 refine J_seq ?_
 refine J_keep (l' := [(0, _)]) ⟨rfl, trivial⟩ ?_
 refine J_reg ?_
 refine JM rfl rfl rfl rfl rfl ?_
 refine JL_op (wn0 rfl) (ow_callR (ec_fn rfl rfl cf_74) rfl rfl (fun _ => rfl) (fun w hw => teams74 T G R m w bp bm cap cap2 n0 c0 A A2 (hp.up hw.bel) (hmp.up hw.bel) hT hGl hG2 hmv)) (fun t11 ht11 => ?_)
 refine JN rfl rfl rfl rfl rfl ?_
 refine JL_nil ?_
 refine JQ_then_n ?_
 refine J_seq ?_
 refine J_own0 3 1 ?_
 refine J_reg ?_
 refine JN rfl rfl rfl rfl rfl ?_
 refine JL_nil ?_
 refine JQ_then_n ?_
 refine J_seq ?_
 refine J_seq ?_
 refine J_reg ?_
 refine JM rfl rfl rfl rfl rfl ?_
 refine JP (rp_nil rfl rfl) ?_
 refine JP (rp_fieldC (off' := 0) rfl rfl fa_86_0 rfl) ?_
 refine JP (rp_fieldC (off' := 2) rfl rfl fa_25_2 rfl) ?_
 refine JV (rv_old rfl rfl ag_23 (fun h => h) hp.c2) ?_
 refine JP (rp1 rfl (fun ρ hx w => ex_len (A := _) (c := _) rfl Try.underlying23 hx)) ?_
 refine JM rfl rfl rfl rfl rfl ?_
 refine JL_nil ?_
 refine JQ_then_n ?_
 refine J_block ?_
 refine J_loop (T := Nat × Option Addr × Nat) (fun q => q.1 ≤ R.length) (fun q => [(3, .map (some t11.1)), (4, .slice q.2.1 (plcL (tmM m T G G.length) (R.take q.1)).length q.2.2), (16, .slice A2 R.length cap2), (17, .int .i64 (R.length : Nat)), (18, .int .i64 (q.1 : Nat))]) (fun q => [ownB 3 1 q.2.1 (plcL (tmM m T G G.length) (R.take q.1)).length q.2.2 ((plcL (tmM m T G G.length) (R.take q.1)).flatMap eI), mapB 89 3 kP W2 dI t11.1 t11.2.1 t11.2.2 (tmM m T G G.length)]) (fun q => R.length - q.1) (0, none, 0) (Nat.zero_le _) ⟨rfl, rfl, rfl, rfl, rfl, trivial⟩ (by repeat constructor) ?_
 rintro ⟨k, A4, c4⟩ hk
 dsimp only at hk ⊢
 refine J_seq ?_
 refine J_reg ?_
 refine JP (rp2 rfl rfl (fun ρ hx hy w => ex_lssD rfl hx hy)) ?_
 refine JL_dec (fun h19 => ?_) (fun h19 => ?_)
 ·refine JL_nil ?_
  refine JQ_then_n ?_
  refine J_seq ?_
  refine J_yes rfl rfl ?_
  refine J_skip ?_
  refine JQ_then_n ?_
  refine J_seq ?_
  refine J_block ?_
  refine J_seq ?_
  have hlt : k < R.length := by omega
  obtain ⟨b, p, rfl, hh⟩ := hA (by intro e; subst e; simp at hlt)
  refine J_reg ?_
  refine JP (rp2 rfl rfl (fun ρ hx hy w => ex_indexE rfl hx hy Try.underlying23 sz_89 (by omega))) ?_
  refine JV (rv_holdagg (E := EP) rfl rfl ag_89 sz_89 (fun h => h) hh (by omega) rfl) ?_
  refine JL_op (wn0 rfl) (ow_alloc rfl rfl zv_89 rfl rfl) (fun b6 hb6 => ?_)
  refine JL_op (wn0 rfl) (ow_store (cs := [_, _]) (vs' := [_, _]) rfl rfl rfl rfl rfl sz_89 rfl (by repeat constructor) (by rfl) (by rfl)) (fun _ _ => ?_)
  refine JL_nil ?_
  refine JQ_then_n ?_
  have hpl : (plcL (tmM m T G G.length) (R.take k)).length ≤ 20 := by unfold plcL; rw [List.length_map, List.length_take]; omega
  refine J_reg ?_
  refine JM rfl rfl rfl rfl rfl ?_
  refine JM rfl rfl rfl rfl rfl ?_
  refine JV (rv_agg (cs := [_, _]) rfl rfl ag_89 sz_89 (by repeat constructor) (by rfl)) ?_
  refine JL_op (wn0 rfl) (ow_callB (ec_fn rfl rfl cf_75) rfl rfl (fun w hw => at75 (tmM m T G G.length) (R[k]'hlt) w t11.1 t11.2.1 t11.2.2 (hw.ok (mapB 89 3 kP W2 dI t11.1 t11.2.1 t11.2.2 (tmM m T G G.length)) (by repeat constructor)).1 (hR2 _ (List.getElem_mem hlt)))) (fun _ _ => ?_)
  refine JL_op (wn0 rfl) (ow_sliceC (vs := [_]) (ty := 3) rfl rfl (by rfl) rfl rfl (fun _ => by kernel_rfl)) (fun b26 hb26 => ?_)
  refine JL_opS (wn0 rfl) (ow_app1 EI (by decide) (atM (tmM m T G G.length) (R[k]'hlt)) Try.underlying26 Try.info3 rfl (by decide) rfl rfl rfl rfl rfl (by repeat constructor) (by rfl) (by omega) (by intro A c; repeat constructor)) (fun A27 c27 => ?_)
  refine JN rfl rfl rfl rfl rfl ?_
  refine JL_nil ?_
  refine JQ_block_n ?_
  refine JQ_then_n ?_
  refine J_keep (l' := [(3, _), (4, _), (16, _), (17, _), (18, _)]) ⟨rfl, rfl, rfl, rfl, rfl, trivial⟩ ?_
  refine J_reg ?_
  refine JP (rp2 rfl rfl (fun ρ hx hy w => ex_add rfl hx hy (by omega))) ?_
  refine JM rfl rfl rfl rfl rfl ?_
  refine JL_nil ?_
  exact JQ_round (k + 1, A27, c27) (by dsimp only; omega) (by dsimp only; omega) ⟨rfl, (by rw [plcL_snoc _ _ _ hlt]; rfl), rfl, rfl, (congrArg some (by go_num)), trivial⟩ (by (try dsimp only); rw [plcL_snoc _ _ _ hlt]; repeat (first | exact Pk.nil _ | (refine Pk.pick (by repeat (first | exact Rm.here _ | apply Rm.there)) ?_)))
 ·refine JL_nil ?_
  refine JQ_then_n ?_
  refine J_seq ?_
  refine J_no rfl rfl ?_
  refine J_exit ?_
  refine JQ_then_x ?_
  refine JQ_then_x ?_
  refine JQ_block_y rfl ?_
  refine JQ_then_n ?_
  refine J_seq ?_
  refine J_keep (l' := [(4, _)]) ⟨rfl, trivial⟩ ?_
  refine J_reg ?_
  refine JM rfl rfl rfl rfl rfl ?_
  refine JN rfl rfl rfl rfl rfl ?_
  refine JL_nil ?_
  refine JQ_then_n ?_
  refine J_ret ?_
  refine JR_one rfl (rr_tmp rfl) ?_
  intro w' hw
  obtain rfl : k = R.length := by omega
  have e : plcL (tmM m T G G.length) (R.take R.length) = plcL (tmM m T G G.length) R := by rw [List.take_length]
  exact ⟨A4, c4, by rw [← e], (by rw [e] at hw; exact hw.pick (by repeat constructor))⟩
end Go.Proofs.Ytlfbbofcnonhdaa

/- Contracts of brackets: New, Teams, Page. -/
namespace Go.Proofs.Ytlfbbofcnonhdaa
open Go Go.RowKit Go.Proofs

theorem retS_of {k ty : Nat} {α : Type} {enc : α → List Value} {L : List α} {w w' : World} {e : Ending} (h : (∃ u, e = .returned u ∧ Own w.heap.size ty k enc w' u L) ∧ Below w.heap.size w w') : RetS ty k enc L w e w' := by
 obtain ⟨⟨u, rfl, h1⟩, hb⟩ := h
 obtain ⟨A, c, rfl, -, -⟩ := row_form h1
 refine ⟨A, c, rfl, ⟨hb.os, hb.tape, hb.output, hb.size, fun b h _ => hb.block b h, fun C hC => ?_, List.pairwise_singleton _ _⟩⟩
 rw [List.mem_singleton.1 hC]
 refine ⟨own_base h1 (fun _ _ => Nat.zero_le _), fun b hb' => ?_⟩
 have := World.ownsRow.lt h1 b hb'
 exact ⟨.inr (.inr this.1), this.2⟩
section
open Go
variable {P : Program} {n : Nat} {B : Bs} {o : Oper} {l : Sl} {H H' : List It}
theorem ow_makeRes {d : Nat} (ho : o.op = .makeMap 66 none) (hd : o.dst = some d) (hn : Nat.ble n d = false) :
  OpW Try.prog n B none l H o (fun b : Nat => B.w.heap.size ≤ b) (fun b => (d, .map (some b)) :: l) (fun b => resB b 0 (fun _ => none) :: H) :=
 OpW.of_run hd hn (fun a w _ hw => ⟨w.heap.size, _, hw.size, by unfold execOp; rw [ho]; simp only [Option.map_none, Sem.run_bind, show (Instr.makeMap 66 none).run Try.prog w = .ok (.map (some w.heap.size)) (w.alloc (.map #[] 0)) from by kernel_rfl, Result.andThen_ok, Sem.run_pure], hw.new ((Below.refl _ _).alloc (Nat.le_refl _) _) (show ∃ n c, _ from ⟨0, 0, Nat.le_refl _, MapF.made w⟩) (fun b e => by cases e; simp), (show Below _ _ _ from (Below.refl _ _).alloc (Nat.le_refl _) _)⟩)
end
/-- A new playdown's memory: where it lies is t. -/
structure PdT where
 bp : Nat
 bm : Nat
 A : Option Addr
 c : Nat
 A2 : Option Addr
 c2 : Nat
def PdG (T : Int) (G : List Gm) (R : List (Int × Int)) (k : Nat) (m : Int → Option Int) (t : PdT) : List It :=
 [cellB t.bp [.int .i64 T, .slice t.A G.length t.c, .slice t.A2 R.length t.c2, .map (some t.bm)] 86, ownB 90 4 t.A G.length t.c (G.flatMap eG), ownB 89 2 t.A2 R.length t.c2 (R.flatMap eP), resB t.bm k m]
set_option maxRecDepth 100000 in
set_option maxHeartbeats 4000000 in
theorem New34_no (T : Int) (G : List Gm) (R : List (Int × Int)) (w : World) (A A2 : Option Addr) (cap cap2 : Nat) (hG : Arr 4 eG w (.slice A G.length cap) G) (hR : Arr 2 eP w (.slice A2 R.length cap2) R) (hG2 : ∀ g ∈ G, W2 g.1 ∧ W2 g.2) (hR2 : ∀ x ∈ R, W2 x) (hok : cbB T G R = false) : Calls Try.prog 34 #[Brv T A G.length cap A2 R.length cap2] w (Back (.tuple #[.pointer none, .int .i64 2]) w) := by
 refine J_enter (fun _ => False) (vs := [Brv T A G.length cap A2 R.length cap2]) (k := 18) (l := [(0, Brv T A G.length cap A2 R.length cap2)]) Try.func34 rfl rfl Try.ntmps34 rfl rfl (Wd.start _) ?_
 refine J_seq ?_
 refine J_reg ?_
 refine JL_op (wn0 rfl) (ow_box (vs := [_, _, _]) rfl rfl rfl rfl rfl) (fun b1 hb1 => ?_)
 refine JN rfl rfl rfl rfl rfl ?_
 refine JN rfl rfl rfl rfl rfl ?_
 refine JL_nil ?_
 refine JQ_then_n ?_
 refine J_seq ?_
 refine J_seq ?_
 refine J_reg ?_
 refine JV (rv_agg (cs := [_, _, _]) rfl rfl ag_25 sz_25 (by repeat constructor) (by rfl)) ?_
 refine JL_op (wn0 rfl) (ow_callB (ec_fn rfl rfl cf_17) rfl rfl (fun w hw => (by have := Check17 T G R w A A2 cap cap2 (hG.up EG hw.bel) (hR.up EP hw.bel) hG2 hR2; rw [hok] at this; exact this))) (fun _ _ => ?_)
 refine JP (rp1 rfl (fun ρ hx w => ex_not rfl hx)) ?_
 refine JL_nil ?_
 refine JQ_then_n ?_
 refine J_yes rfl rfl ?_
 refine J_seq ?_
 refine J_keep (l' := []) trivial ?_
 refine J_reg ?_
 refine JN rfl rfl rfl rfl rfl ?_
 refine JN rfl rfl rfl rfl rfl ?_
 refine JL_nil ?_
 refine JQ_then_n ?_
 refine J_ret ?_
 refine JQ_then_r ?_
 refine JR_two rfl (rr_tmp rfl) (rr_tmp rfl) ?_
 intro w' hw
 exact ⟨rfl, hw.bel⟩
set_option maxRecDepth 100000 in
set_option maxHeartbeats 4000000 in
theorem New34 (T : Int) (G : List Gm) (R : List (Int × Int)) (w : World) (A A2 : Option Addr) (cap cap2 : Nat) (hG : Arr 4 eG w (.slice A G.length cap) G) (hR : Arr 2 eP w (.slice A2 R.length cap2) R) (hG2 : ∀ g ∈ G, W2 g.1 ∧ W2 g.2) (hR2 : ∀ x ∈ R, W2 x) (hok : cbB T G R = true) (hl : G.length ≤ 1000 ∧ R.length ≤ 1000) : Calls Try.prog 34 #[Brv T A G.length cap A2 R.length cap2] w (Ret w (fun _ : PdT => True) (fun t => .tuple #[.pointer (some ⟨t.bp, 0, none⟩), .int .i64 0]) (PdG T G R 0 (fun _ => none))) := by
 refine J_enter (fun _ => False) (vs := [Brv T A G.length cap A2 R.length cap2]) (k := 18) (l := [(0, Brv T A G.length cap A2 R.length cap2)]) Try.func34 rfl rfl Try.ntmps34 rfl rfl (Wd.start _) ?_
 refine J_seq ?_
 refine J_reg ?_
 refine JL_op (wn0 rfl) (ow_box (vs := [_, _, _]) rfl rfl rfl rfl rfl) (fun b1 hb1 => ?_)
 refine JN rfl rfl rfl rfl rfl ?_
 refine JN rfl rfl rfl rfl rfl ?_
 refine JL_nil ?_
 refine JQ_then_n ?_
 refine J_seq ?_
 refine J_seq ?_
 refine J_reg ?_
 refine JV (rv_agg (cs := [_, _, _]) rfl rfl ag_25 sz_25 (by repeat constructor) (by rfl)) ?_
 refine JL_op (wn0 rfl) (ow_callB (ec_fn rfl rfl cf_17) rfl rfl (fun w hw => (by have := Check17 T G R w A A2 cap cap2 (hG.up EG hw.bel) (hR.up EP hw.bel) hG2 hR2; rw [hok] at this; exact this))) (fun _ _ => ?_)
 refine JP (rp1 rfl (fun ρ hx w => ex_not rfl hx)) ?_
 refine JL_nil ?_
 refine JQ_then_n ?_
 refine J_no rfl rfl ?_
 refine J_skip ?_
 refine JQ_then_n ?_
 refine J_seq ?_
 refine J_keep (l' := [(1, _)]) ⟨rfl, trivial⟩ ?_
 refine J_draw [1, 4] (by kernel_rfl) ?_
 refine JAP (i := 0) rfl (rp_fieldC (off' := 1) rfl rfl fa_25_1 rfl) ?_
 refine JAL (i := 1) rfl (rv_cell rfl rfl ag_22 (by repeat constructor) (by rfl)) ?_
 refine JAP (i := 3) rfl (rp_fieldC (off' := 2) rfl rfl fa_25_2 rfl) ?_
 refine JAL (i := 4) rfl (rv_cell rfl rfl ag_23 (by repeat constructor) (by rfl)) ?_
 refine JA_oneS (i := 2) (by kernel_rfl) rfl (wn0 rfl) (ow_callS (ec_fn rfl rfl cf_71) rfl rfl (fun w hw => (Clone71 G _ w (hG.up EG hw.bel) (by omega)).mono (fun _ _ h => retS_of h))) trivial (fun A9 c9 => ?_)
 refine JAP (i := 6) rfl (rp_fieldC (off' := 1) rfl rfl fa_25_1 rfl) ?_
 refine JA_oneS (i := 5) (by kernel_rfl) rfl (wn0 rfl) (ow_callS (ec_fn rfl rfl cf_72) rfl rfl (fun w hw => (Clone72 R _ w (hR.up EP hw.bel) (by omega)).mono (fun _ _ h => retS_of h))) trivial (fun A12 c12 => ?_)
 refine JA_one (i := 7) (by kernel_rfl) rfl (wn0 rfl) (ow_store (cs := [_]) (vs' := [_, _, _]) rfl rfl rfl rfl rfl sz_22 rfl (by repeat constructor) (by rfl) (by rfl)) ⟨by kernel_rfl, .inl (by kernel_rfl)⟩ (fun _ _ => ?_)
 refine JAP (i := 8) rfl (rp_fieldC (off' := 2) rfl rfl fa_25_2 rfl) ?_
 refine JA_one (i := 9) (by kernel_rfl) rfl (wn0 rfl) (ow_store (cs := [_]) (vs' := [_, _, _]) rfl rfl rfl rfl rfl sz_23 rfl (by repeat constructor) (by rfl) (by rfl)) ⟨by kernel_rfl, .inl (by kernel_rfl)⟩ (fun _ _ => ?_)
 refine JA_done (by kernel_rfl) ?_
 refine JQ_then_n ?_
 refine J_seq ?_
 refine J_keep (l' := [(1, _)]) ⟨rfl, trivial⟩ ?_
 refine J_reg ?_
 refine JV (rv_agg (cs := [_, _, _]) rfl rfl ag_25 sz_25 (by repeat constructor) (by rfl)) ?_
 refine JL_op (wn0 rfl) (ow_makeRes rfl rfl rfl) (fun b16 hb16 => ?_)
 refine JP (rp_buildC (fun us => [us.getD 0 undef, us.getD 1 undef]) rfl rfl (fun w => by kernel_rfl)) ?_
 refine JL_op (wn0 rfl) (ow_box (vs := [_, _, _, _]) rfl rfl rfl rfl rfl) (fun b18 hb18 => ?_)
 refine JN rfl rfl rfl rfl rfl ?_
 refine JN rfl rfl rfl rfl rfl ?_
 refine JL_nil ?_
 refine JQ_then_n ?_
 refine J_ret ?_
 refine JR_two rfl (rr_tmp rfl) (rr_tmp rfl) ?_
 intro w' hw
 exact ⟨⟨b18, b16, A9, c9, A12, c12⟩, trivial, rfl, hw.pick (by repeat constructor)⟩
end Go.Proofs.Ytlfbbofcnonhdaa

/- Contracts of brackets: Page, Teams, Ready. -/
namespace Go.Proofs.Ytlfbbofcnonhdaa
open Go Go.RowKit Go.Proofs

/-- A new bracket's memory. -/
structure BrT where
 A : Option Addr
 c : Nat
 A2 : Option Addr
 c2 : Nat
def BrG (G : List Gm) (R : List (Int × Int)) (t : BrT) : List It := [ownB 90 4 t.A G.length t.c (G.flatMap eG), ownB 89 2 t.A2 R.length t.c2 (R.flatMap eP)]
def pageG : List Gm := [((0, 0), (0, 1)), ((0, 2), (0, 3)), ((2, 0), (1, 1)), ((1, 0), (1, 2))]
def pageR : List (Int × Int) := [(1, 3), (2, 3), (2, 2), (2, 1)]
set_option maxRecDepth 100000 in
set_option maxHeartbeats 4000000 in
theorem Page20 (w : World) : Calls Try.prog 20 #[] w (Ret w (fun _ : BrT => True) (fun t => Brv 4 t.A 4 t.c t.A2 4 t.c2) (BrG pageG pageR)) := by
 refine J_enter (fun _ => False) (vs := []) (k := 20) (l := []) Try.func20 rfl rfl Try.ntmps20 rfl rfl (Wd.start _) ?_
 refine J_seq ?_
 refine J_reg ?_
 refine JL_op (wn0 rfl) (ow_alloc rfl rfl zv_25 rfl rfl) (fun b0 hb0 => ?_)
 refine JL_nil ?_
 refine JQ_then_n ?_
 refine J_seq ?_
 refine J_reg ?_
 refine JL_op (wn0 rfl) (ow_callB (ec_fn rfl rfl cf_49) rfl rfl (fun w hw => seed49 _ w)) (fun _ _ => ?_)
 refine JL_op (wn0 rfl) (ow_callB (ec_fn rfl rfl cf_49) rfl rfl (fun w hw => seed49 _ w)) (fun _ _ => ?_)
 refine JP (rp_buildC (fun us => [us.getD 0 undef, us.getD 1 undef]) rfl rfl (fun w => by kernel_rfl)) ?_
 refine JL_op (wn0 rfl) (ow_callB (ec_fn rfl rfl cf_49) rfl rfl (fun w hw => seed49 _ w)) (fun _ _ => ?_)
 refine JL_op (wn0 rfl) (ow_callB (ec_fn rfl rfl cf_49) rfl rfl (fun w hw => seed49 _ w)) (fun _ _ => ?_)
 refine JP (rp_buildC (fun us => [us.getD 0 undef, us.getD 1 undef]) rfl rfl (fun w => by kernel_rfl)) ?_
 refine JL_op (wn0 rfl) (ow_callB (ec_fn rfl rfl cf_57) rfl rfl (fun w hw => loser57 _ w)) (fun _ _ => ?_)
 refine JL_op (wn0 rfl) (ow_callB (ec_fn rfl rfl cf_58) rfl rfl (fun w hw => winner58 _ w)) (fun _ _ => ?_)
 refine JP (rp_buildC (fun us => [us.getD 0 undef, us.getD 1 undef]) rfl rfl (fun w => by kernel_rfl)) ?_
 refine JL_op (wn0 rfl) (ow_callB (ec_fn rfl rfl cf_58) rfl rfl (fun w hw => winner58 _ w)) (fun _ _ => ?_)
 refine JL_op (wn0 rfl) (ow_callB (ec_fn rfl rfl cf_58) rfl rfl (fun w hw => winner58 _ w)) (fun _ _ => ?_)
 refine JP (rp_buildC (fun us => [us.getD 0 undef, us.getD 1 undef]) rfl rfl (fun w => by kernel_rfl)) ?_
 refine JL_op (wn0 rfl) (ow_sliceC (vs := [_, _, _, _, _, _, _, _, _, _, _, _, _, _, _, _]) (ty := 90) rfl rfl (by rfl) rfl rfl (fun _ => by kernel_rfl)) (fun b13 hb13 => ?_)
 refine JL_op (wn0 rfl) (ow_callB (ec_fn rfl rfl cf_58) rfl rfl (fun w hw => winner58 _ w)) (fun _ _ => ?_)
 refine JL_op (wn0 rfl) (ow_callB (ec_fn rfl rfl cf_57) rfl rfl (fun w hw => loser57 _ w)) (fun _ _ => ?_)
 refine JL_op (wn0 rfl) (ow_callB (ec_fn rfl rfl cf_57) rfl rfl (fun w hw => loser57 _ w)) (fun _ _ => ?_)
 refine JL_op (wn0 rfl) (ow_callB (ec_fn rfl rfl cf_57) rfl rfl (fun w hw => loser57 _ w)) (fun _ _ => ?_)
 refine JL_op (wn0 rfl) (ow_sliceC (vs := [_, _, _, _, _, _, _, _]) (ty := 89) rfl rfl (by rfl) rfl rfl (fun _ => by kernel_rfl)) (fun b18 hb18 => ?_)
 refine JP (rp_buildC (fun us => [us.getD 0 undef, us.getD 1 undef, us.getD 2 undef]) rfl rfl (fun w => by kernel_rfl)) ?_
 refine JL_op (wn0 rfl) (ow_store (cs := [_, _, _]) (vs' := [_, _, _]) rfl rfl rfl rfl rfl sz_25 rfl (by repeat constructor) (by rfl) (by rfl)) (fun _ _ => ?_)
 refine JL_nil ?_
 refine JQ_then_n ?_
 refine J_ret ?_
 refine JR_one rfl (rr_agg (cs := [_, _, _]) rfl ag_25 sz_25 (by repeat constructor) (by rfl)) ?_
 intro w' hw
 refine ⟨⟨some ⟨b13, 0, none⟩, 4, some ⟨b18, 0, none⟩, 4⟩, trivial, rfl, ?_⟩
 have h1 := hw.pick (H' := [cellB b13 [.int .i64 0, .int .i64 0, .int .i64 0, .int .i64 1, .int .i64 0, .int .i64 2, .int .i64 0, .int .i64 3, .int .i64 2, .int .i64 0, .int .i64 1, .int .i64 1, .int .i64 1, .int .i64 0, .int .i64 1, .int .i64 2] 90, cellB b18 [.int .i64 1, .int .i64 3, .int .i64 2, .int .i64 3, .int .i64 2, .int .i64 2, .int .i64 2, .int .i64 1] 89]) (by repeat constructor)
 have h2 := h1.asOwn (kk := 4) (m := 4) (At.here _) rfl (by omega)
 exact h2.asOwn (kk := 2) (m := 4) (At.there _ (At.here _)) rfl (by omega)
end Go.Proofs.Ytlfbbofcnonhdaa
