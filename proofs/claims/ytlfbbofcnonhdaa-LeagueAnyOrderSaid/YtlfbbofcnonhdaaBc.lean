/- Contracts of brackets: a playdown. -/
import Derived.Test.YtlfbbofcnonhdaaBa
import Derived.Laws.Pointers
import Derived.Laws.Cover3
namespace Go.Proofs.Ytlfbbofcnonhdaa
open Go Go.RowKit Go.Proofs

section
variable {ρ : Operand → Value} {o : Oper} {w : World} {x y : Operand} {ty : TypeId}
theorem ex_neqPtr {p : Option Addr} (ho : o.op = .binOp .neq 63 x y ty) (hx : ρ x = .pointer p) (hy : ρ y = .pointer none) : (execOp ρ o).run Try.prog w = .ok (.value (.bool (!p.isNone))) w := by
 have h := run_neq_pointer_nil (P := Try.prog) w 63 p (by kernel_rfl)
 unfold execOp
 simp only [ho, hx, hy]
 simp [h, eqGuard]
theorem ex_eqlPtr {p : Option Addr} (ho : o.op = .binOp .eql 63 x y ty) (hx : ρ x = .pointer p) (hy : ρ y = .pointer none) : (execOp ρ o).run Try.prog w = .ok (.value (.bool p.isNone)) w := by
 have h := run_eql_pointer_nil (P := Try.prog) w 63 p (by kernel_rfl)
 unfold execOp
 simp only [ho, hx, hy]
 simp [h, eqGuard]
theorem ex_neqMap {p : Option Nat} (ho : o.op = .binOp .neq 66 x y ty) (hx : ρ x = .map p) (hy : ρ y = .map none) : (execOp ρ o).run Try.prog w = .ok (.value (.bool (!p.isNone))) w := by
 have h := run_neq_map_nil (P := Try.prog) w 66 _ _ p Try.underlying66
 unfold execOp
 simp only [ho, hx, hy]
 simp [h, eqGuard]
end
/-- A playdown, as it lies in the memory of the caller. -/
structure PdF (T : Int) (G : List Gm) (R : List (Int × Int)) (w : World) (bp bm cap cap2 : Nat) (A A2 : Option Addr) : Prop where
 c0 : w.cell? ⟨bp, 0, none⟩ = some (.int .i64 T)
 c1 : w.cell? ⟨bp, 1, none⟩ = some (.slice A G.length cap)
 c2 : w.cell? ⟨bp, 2, none⟩ = some (.slice A2 R.length cap2)
 c3 : w.cell? ⟨bp, 3, none⟩ = some (.map (some bm))
 hG : Arr 4 eG w (.slice A G.length cap) G
 hR : Arr 2 eP w (.slice A2 R.length cap2) R
/-- What is reported of the games. -/
def resB (bm k : Nat) (m : Int → Option Int) : It where
 foot b := b = bm
 holds w := ∃ n c, n ≤ k ∧ MapF 3 3 kI W64 dI w bm n c m
 st _ _ h h1 := by obtain ⟨n, c, h0, h1⟩ := h1; exact ⟨n, c, h0, h1.heap (h bm rfl)⟩
theorem resB_lt {bm k : Nat} {m : Int → Option Int} {w : World} (h : (resB bm k m).holds w) : bm < w.heap.size := by
 obtain ⟨n, c, -, h⟩ := h; exact h.lt
theorem PdF.up {T : Int} {G : List Gm} {R : List (Int × Int)} {w w' : World} {bp bm cap cap2 : Nat} {A A2 : Option Addr} (h : PdF T G R w bp bm cap cap2 A A2) (hb : Below w.heap.size w w') : PdF T G R w' bp bm cap cap2 A A2 :=
 ⟨upc h.c0 hb, upc h.c1 hb, upc h.c2 hb, upc h.c3 hb, h.hG.up EG hb, h.hR.up EP hb⟩
/-- The map lies apart from the rest. -/
def PdA (G : List Gm) (R : List (Int × Int)) (bp bm : Nat) (A A2 : Option Addr) : Prop := ¬ bp = bm ∧ (G ≠ [] → ∀ b o, A = some ⟨b, o, none⟩ → ¬ b = bm) ∧ (R ≠ [] → ∀ b o, A2 = some ⟨b, o, none⟩ → ¬ b = bm)
theorem PdF.upM {T : Int} {G : List Gm} {R : List (Int × Int)} {w w0 : World} {bp bm cap cap2 : Nat} {A A2 : Option Addr} {H : List It} (h : PdF T G R w0 bp bm cap cap2 A A2) (ha : PdA G R bp bm A A2) (hw : Wd ⟨w0, fun b => b = bm⟩ H w) : PdF T G R w bp bm cap cap2 A A2 :=
 ⟨hw.old ha.1 h.c0, hw.old ha.1 h.c1, hw.old ha.1 h.c2, hw.old ha.1 h.c3, Arr.upM EG h.hG hw ha.2.1, Arr.upM EP h.hR hw ha.2.2⟩
set_option maxRecDepth 100000 in
set_option maxHeartbeats 4000000 in
theorem is73 (T : Int) (G : List Gm) (R : List (Int × Int)) (w : World) (bp bm cap cap2 : Nat) (A A2 : Option Addr) (hp : PdF T G R w bp bm cap cap2 A A2) : Calls Try.prog 73 #[.pointer (some ⟨bp, 0, none⟩)] w (Back (.bool true) w) := by
 refine J_enter (fun _ => False) (vs := [.pointer (some ⟨bp, 0, none⟩)]) (k := 11) (l := [(0, .pointer (some ⟨bp, 0, none⟩))]) Try.func73 rfl rfl Try.ntmps73 rfl rfl (Wd.start _) ?_
 refine J_seq ?_
 refine J_reg ?_
 refine JN rfl rfl rfl rfl rfl ?_
 refine JL_nil ?_
 refine JQ_then_n ?_
 refine J_seq ?_
 refine J_reg ?_
 refine JM rfl rfl rfl rfl rfl ?_
 refine JP (rp2 rfl rfl (fun ρ hx hy w => ex_neqPtr rfl hx hy)) ?_
 refine JL_boolT rfl ?_
 refine JM rfl rfl rfl rfl rfl ?_
 refine JPg (rp_move rfl rfl) ?_
 refine JPg (rp_nil rfl rfl) ?_
 refine JPg (rp_fieldC (off' := 3) rfl rfl fa_86_1 rfl) ?_
 refine JVg (rv_old rfl rfl ag_66 (fun h => h) hp.c3) ?_
 refine JPg (rp2 rfl rfl (fun ρ hx hy w => ex_neqMap rfl hx hy)) ?_
 refine JL_boolT rfl ?_
 refine JP (rp_pickT rfl rfl rfl) ?_
 refine JN rfl rfl rfl rfl rfl ?_
 refine JL_nil ?_
 refine JQ_then_n ?_
 refine J_ret ?_
 refine JR_one rfl (rr_tmp rfl) ?_
 intro w' hw
 exact ⟨rfl, hw.bel⟩
/-- Which team stands in a place; or -1. -/
def atM (m : Int × Int → Option Int) (x : Int × Int) : Int := (m x).getD (-1)
set_option maxRecDepth 100000 in
set_option maxHeartbeats 4000000 in
theorem at75 (m : Int × Int → Option Int) (x : Int × Int) (w : World) (bt n c : Nat) (hmp : MapF 89 3 kP W2 dI w bt n c m) (hx : W2 x) : Calls Try.prog 75 #[.map (some bt), Pv x.1 x.2] w (Back (.int .i64 (atM m x)) w) := by
 refine J_enter (fun _ => False) (vs := [.map (some bt), Pv x.1 x.2]) (k := 13) (l := [(0, .map (some bt)), (1, Pv x.1 x.2)]) Try.func75 rfl rfl Try.ntmps75 rfl rfl (Wd.start _) ?_
 refine J_seq ?_
 refine J_reg ?_
 refine JL_op (wn0 rfl) (ow_box (vs := [_, _]) rfl rfl rfl rfl rfl) (fun b3 hb3 => ?_)
 refine JN rfl rfl rfl rfl rfl ?_
 refine JL_nil ?_
 refine JQ_then_n ?_
 refine J_seq ?_
 refine J_seq ?_
 rcases hmx : m x with _ | v
 ·refine J_reg ?_
  refine JM rfl rfl rfl rfl rfl ?_
  refine JV (rv_agg (cs := [_, _]) rfl rfl ag_89 sz_89 (by repeat constructor) (by rfl)) ?_
  refine JV (rv_lookOld2E K89 E3 (kt := 89) (e := 3) (f := m) (x) Try.underlying123 rfl rfl rfl (fun h => h) hmp rfl hx hmx) ?_
  refine JM rfl rfl rfl rfl rfl ?_
  refine JP (rp_run1 (f := fun u => Instr.extract u 0) (fun _ => rfl) rfl (fun _ => rfl)) ?_
  refine JP (rp_run1 (f := fun u => Instr.extract u 1) (fun _ => rfl) rfl (fun _ => rfl)) ?_
  refine JN rfl rfl rfl rfl rfl ?_
  refine JN rfl rfl rfl rfl rfl ?_
  refine JL_nil ?_
  refine JQ_then_n ?_
  refine J_seq ?_
  refine J_keep (l' := [(5, _), (6, _)]) ⟨rfl, rfl, trivial⟩ ?_
  refine J_reg ?_
  refine JM rfl rfl rfl rfl rfl ?_
  refine JL_nil ?_
  refine JQ_then_n ?_
  refine J_no rfl rfl ?_
  refine J_skip ?_
  refine JQ_then_n ?_
  refine J_seq ?_
  refine J_reg ?_
  refine JN rfl rfl rfl rfl rfl ?_
  refine JL_nil ?_
  refine JQ_then_n ?_
  refine J_ret ?_
  refine JR_one rfl (rr_tmp rfl) ?_
  intro w' hw
  exact ⟨by unfold atM; rw [hmx]; rfl, hw.bel⟩
 ·refine J_reg ?_
  refine JM rfl rfl rfl rfl rfl ?_
  refine JV (rv_agg (cs := [_, _]) rfl rfl ag_89 sz_89 (by repeat constructor) (by rfl)) ?_
  refine JV (rv_lookOld2E K89 E3 (kt := 89) (e := 3) (f := m) (x) Try.underlying123 rfl rfl rfl (fun h => h) hmp rfl hx hmx) ?_
  refine JM rfl rfl rfl rfl rfl ?_
  refine JP (rp_run1 (f := fun u => Instr.extract u 0) (fun _ => rfl) rfl (fun _ => rfl)) ?_
  refine JP (rp_run1 (f := fun u => Instr.extract u 1) (fun _ => rfl) rfl (fun _ => rfl)) ?_
  refine JN rfl rfl rfl rfl rfl ?_
  refine JN rfl rfl rfl rfl rfl ?_
  refine JL_nil ?_
  refine JQ_then_n ?_
  refine J_seq ?_
  refine J_keep (l' := [(5, _), (6, _)]) ⟨rfl, rfl, trivial⟩ ?_
  refine J_reg ?_
  refine JM rfl rfl rfl rfl rfl ?_
  refine JL_nil ?_
  refine JQ_then_n ?_
  refine J_yes rfl rfl ?_
  refine J_seq ?_
  refine J_reg ?_
  refine JM rfl rfl rfl rfl rfl ?_
  refine JN rfl rfl rfl rfl rfl ?_
  refine JL_nil ?_
  refine JQ_then_n ?_
  refine J_ret ?_
  refine JQ_then_r ?_
  refine JR_one rfl (rr_tmp rfl) ?_
  intro w' hw
  exact ⟨by unfold atM; rw [hmx]; rfl, hw.bel⟩
/-- The teams' places before the games; and the places after a game. -/
def sedM : Nat → Int × Int → Option Int
 | 0 => fun _ => none
 | k + 1 => upd (sedM k) (0, (k : Nat)) (k : Nat)
def sideG (g : Gm) (r : Int) : Int × Int := if r = 0 then g.1 else g.2
def gameM (m : Int → Option Int) (f : Int × Int → Option Int) (i : Int) (g : Gm) : Int × Int → Option Int :=
 match m i with
 | none => f
 | some r =>
  let f1 := match f (sideG g r) with
   | none => f
   | some t => upd f (1, i) t
  match f1 (sideG g (1 - r)) with
   | none => f1
   | some t => upd f1 (2, i) t
def tmM (m : Int → Option Int) (T : Nat) (G : List Gm) : Nat → Int × Int → Option Int
 | 0 => sedM T
 | k + 1 => gameM m (tmM m T G k) (k : Nat) (G.getD k ((0, 0), (0, 0)))
theorem sideG_v (g : Gm) (r : Int) : kP (sideG g r) = Pv (sideG g r).1 (sideG g r).2 := rfl
set_option maxRecDepth 100000 in
set_option maxHeartbeats 4000000 in
theorem teams74 (T : Nat) (G : List Gm) (R : List (Int × Int)) (m : Int → Option Int) (w : World) (bp bm cap cap2 n0 c0 : Nat) (A A2 : Option Addr) (hp : PdF (T : Nat) G R w bp bm cap cap2 A A2) (hmp : MapF 3 3 kI W64 dI w bm n0 c0 m) (hT : T ≤ 16) (hGl : G.length ≤ 64) (hG2 : ∀ g ∈ G, W2 g.1 ∧ W2 g.2) (hmv : ∀ i r, m i = some r → r = 0 ∨ r = 1) : Calls Try.prog 74 #[.pointer (some ⟨bp, 0, none⟩)] w (Ret w (fun t : Nat × Nat × Nat => t.2.1 ≤ 1000 ∧ ∀ x v, tmM m T G G.length x = some v → 0 ≤ v ∧ v < T) (fun t => .map (some t.1)) (fun t => [mapB 89 3 kP W2 dI t.1 t.2.1 t.2.2 (tmM m T G G.length)])) := by
 obtain ⟨Ag, cg, eg, -, -, hA⟩ := id hp.hG
 injection eg with e1 e2 e3
 subst e1 e3
 refine J_enter (fun _ => False) (vs := [.pointer (some ⟨bp, 0, none⟩)]) (k := 77) (l := [(0, .pointer (some ⟨bp, 0, none⟩))]) Try.func74 rfl rfl Try.ntmps74 rfl rfl (Wd.start _) ?_
 refine J_seq ?_
 refine J_reg ?_
 refine JN rfl rfl rfl rfl rfl ?_
 refine JL_nil ?_
 refine JQ_then_n ?_
 refine J_seq ?_
 refine J_reg ?_
 refine JL_op (wn0 rfl) (ow_makeMap (kt := 89) (e := 3) (kv := kP) (ok := W2) (ed := dI) rfl rfl rfl (fun _ => by kernel_rfl)) (fun b13 hb13 => ?_)
 refine JN rfl rfl rfl rfl rfl ?_
 refine JL_nil ?_
 refine JQ_then_n ?_
 refine J_seq ?_
 refine J_seq ?_
 refine J_reg ?_
 refine JM rfl rfl rfl rfl rfl ?_
 refine JP (rp_nil rfl rfl) ?_
 refine JP (rp_fieldC (off' := 0) rfl rfl fa_86_0 rfl) ?_
 refine JP (rp_fieldC (off' := 0) rfl rfl fa_25_0 rfl) ?_
 refine JV (rv_old rfl rfl ag_3 (fun h => h) hp.c0) ?_
 refine JM rfl rfl rfl rfl rfl ?_
 refine JL_nil ?_
 refine JQ_then_n ?_
 refine J_block ?_
 refine J_loop (T := Nat × Nat × Nat) (fun q => q.1 ≤ T ∧ q.2.1 ≤ q.1 ∧ ∀ x v, sedM q.1 x = some v → 0 ≤ v ∧ v < T) (fun q => [(0, .pointer (some ⟨bp, 0, none⟩)), (3, .map (some b13)), (18, .int .i64 (T : Nat)), (19, .int .i64 (q.1 : Nat))]) (fun q => [mapB 89 3 kP W2 dI b13 q.2.1 q.2.2 (sedM q.1)]) (fun q => T - q.1) (0, 0, 0) ⟨Nat.zero_le _, Nat.le_refl _, fun _ _ h => by cases h⟩ ⟨rfl, rfl, rfl, rfl, trivial⟩ (by repeat constructor) ?_
 rintro ⟨k, N, c⟩ ⟨hk, hN, hv⟩
 dsimp only at hk hN hv ⊢
 refine J_seq ?_
 refine J_reg ?_
 refine JP (rp2 rfl rfl (fun ρ hx hy w => ex_lssD rfl hx hy)) ?_
 refine JL_dec (fun h20 => ?_) (fun h20 => ?_)
 ·refine JL_nil ?_
  refine JQ_then_n ?_
  refine J_seq ?_
  refine J_yes rfl rfl ?_
  refine J_skip ?_
  refine JQ_then_n ?_
  refine J_seq ?_
  refine J_block ?_
  refine J_seq ?_
  refine J_reg ?_
  refine JM rfl rfl rfl rfl rfl ?_
  refine JN rfl rfl rfl rfl rfl ?_
  refine JL_nil ?_
  refine JQ_then_n ?_
  refine J_reg ?_
  refine JM rfl rfl rfl rfl rfl ?_
  refine JM rfl rfl rfl rfl rfl ?_
  refine JL_op (wn0 rfl) (ow_callB (ec_fn rfl rfl cf_49) rfl rfl (fun w hw => seed49 k w)) (fun _ _ => ?_)
  refine JM rfl rfl rfl rfl rfl ?_
  refine JL_op (wn0 rfl) (ow_put K89 E3 (kt := 89) (e := 3) (m := N) ((0, ((k : Nat) : Int))) (((k : Nat) : Int)) Try.underlying123 rfl rfl rfl rfl rfl rfl rfl (by repeat constructor) ⟨by unfold W64; dsimp only; omega, by unfold W64; dsimp only; omega⟩ (by unfold W64; omega) (by omega)) (fun _ _ => ?_)
  refine JL_nil ?_
  refine JQ_block_n ?_
  refine JQ_then_n ?_
  refine J_keep (l' := [(0, _), (3, _), (18, _), (19, _)]) ⟨rfl, rfl, rfl, rfl, trivial⟩ ?_
  refine J_reg ?_
  refine JP (rp2 rfl rfl (fun ρ hx hy w => ex_add rfl hx hy (by omega))) ?_
  refine JM rfl rfl rfl rfl rfl ?_
  refine JL_nil ?_
  have hv2 : ∀ x v, sedM (k + 1) x = some v → 0 ≤ v ∧ v < T := by
   intro x v h
   simp only [sedM, upd] at h
   split at h
   ·cases h; omega
   ·exact hv x v h
  exact JQ_round (k + 1, N + 1, _) ⟨by dsimp only; omega, by dsimp only; omega, hv2⟩ (by dsimp only; omega) ⟨rfl, rfl, rfl, (congrArg some (by go_num)), trivial⟩ (by repeat constructor)
 ·refine JL_nil ?_
  refine JQ_then_n ?_
  refine J_seq ?_
  refine J_no rfl rfl ?_
  refine J_exit ?_
  refine JQ_then_x ?_
  refine JQ_then_x ?_
  refine JQ_block_y rfl ?_
  refine JQ_then_n ?_
  refine J_seq ?_
  refine J_seq ?_
  obtain rfl : T = k := by omega
  refine J_reg ?_
  refine JM rfl rfl rfl rfl rfl ?_
  refine JP (rp_nil rfl rfl) ?_
  refine JP (rp_fieldC (off' := 0) rfl rfl fa_86_0 rfl) ?_
  refine JP (rp_fieldC (off' := 1) rfl rfl fa_25_1 rfl) ?_
  refine JV (rv_old rfl rfl ag_22 (fun h => h) hp.c1) ?_
  refine JP (rp1 rfl (fun ρ hx w => ex_len (A := _) (c := _) rfl Try.underlying22 hx)) ?_
  refine JM rfl rfl rfl rfl rfl ?_
  refine JL_nil ?_
  refine JQ_then_n ?_
  refine J_block ?_
  refine J_loop (T := Nat × Nat × Nat) (fun q => q.1 ≤ G.length ∧ q.2.1 ≤ T + 2 * q.1 ∧ ∀ x v, tmM m T G q.1 x = some v → 0 ≤ v ∧ v < T) (fun q => [(0, .pointer (some ⟨bp, 0, none⟩)), (3, .map (some b13)), (31, .slice A G.length cap), (32, .int .i64 (G.length : Nat)), (33, .int .i64 (q.1 : Nat))]) (fun q => [mapB 89 3 kP W2 dI b13 q.2.1 q.2.2 (tmM m T G q.1)]) (fun q => G.length - q.1) (0, N, c) ⟨Nat.zero_le _, by dsimp only; omega, hv⟩ ⟨rfl, rfl, rfl, rfl, rfl, trivial⟩ (by repeat constructor) ?_
  rintro ⟨k, N, c⟩ ⟨hk, hN, hv⟩
  dsimp only at hk hN hv ⊢
  refine J_seq ?_
  refine J_reg ?_
  refine JP (rp2 rfl rfl (fun ρ hx hy w => ex_lssD rfl hx hy)) ?_
  refine JL_dec (fun h34 => ?_) (fun h34 => ?_)
  ·refine JL_nil ?_
   refine JQ_then_n ?_
   refine J_seq ?_
   refine J_yes rfl rfl ?_
   refine J_skip ?_
   refine JQ_then_n ?_
   refine J_seq ?_
   refine J_block ?_
   refine J_seq ?_
   have hlt : k < G.length := by omega
   obtain ⟨b, p, rfl, hh⟩ := hA (by intro e; subst e; simp at hlt)
   obtain ⟨g, hg⟩ : ∃ g, G[k]'hlt = g := ⟨_, rfl⟩
   have hgw := hG2 _ (List.getElem_mem hlt)
   have hgd : G.getD k ((0, 0), (0, 0)) = g := by rw [List.getD_eq_getElem?_getD, List.getElem?_eq_getElem hlt]; exact hg
   rw [hg] at hgw
   refine J_reg ?_
   refine JM rfl rfl rfl rfl rfl ?_
   refine JP (rp2 rfl rfl (fun ρ hx hy w => ex_indexE rfl hx hy Try.underlying22 sz_90 (by omega))) ?_
   refine JV (rv_holdagg (cs := [.int .i64 g.1.1, .int .i64 g.1.2, .int .i64 g.2.1, .int .i64 g.2.2]) EG rfl rfl ag_90 sz_90 (fun h => h) hh (by omega) (by rw [hg]; rfl)) ?_
   refine JL_op (wn0 rfl) (ow_alloc rfl rfl zv_90 rfl rfl) (fun b6 hb6 => ?_)
   refine JN rfl rfl rfl rfl rfl ?_
   refine JL_op (wn0 rfl) (ow_store (cs := [_, _, _, _]) (vs' := [_, _, _, _]) rfl rfl rfl rfl rfl sz_90 rfl (by repeat constructor) (by rfl) (by rfl)) (fun _ _ => ?_)
   refine JL_nil ?_
   refine JQ_then_n ?_
   refine J_seq ?_
   obtain hmi | hmi | hmi : m ((k : Nat) : Int) = none ∨ m ((k : Nat) : Int) = some 0 ∨ m ((k : Nat) : Int) = some 1 := by
    cases h : m ((k : Nat) : Int) with
    | none => exact .inl rfl
    | some r => rcases hmv _ _ h with rfl | rfl <;> simp
   ·refine J_keep (l' := [(0, _), (3, _), (5, _), (6, _), (31, _), (32, _), (33, _)]) ⟨rfl, rfl, rfl, rfl, rfl, rfl, rfl, trivial⟩ ?_
    refine J_reg ?_
    refine JM rfl rfl rfl rfl rfl ?_
    refine JP (rp_nil rfl rfl) ?_
    refine JP (rp_fieldC (off' := 3) rfl rfl fa_86_1 rfl) ?_
    refine JV (rv_old rfl rfl ag_66 (fun h => h) hp.c3) ?_
    refine JM rfl rfl rfl rfl rfl ?_
    refine JV (rv_lookOld2E K3 E3 (kt := 3) (e := 3) (f := m) (((k : Nat) : Int)) Try.underlying66 rfl rfl rfl (fun h => h) hmp rfl (by unfold W64; omega) hmi) ?_
    refine JM rfl rfl rfl rfl rfl ?_
    refine JP (rp_run1 (f := fun u => Instr.extract u 0) (fun _ => rfl) rfl (fun _ => rfl)) ?_
    refine JP (rp_run1 (f := fun u => Instr.extract u 1) (fun _ => rfl) rfl (fun _ => rfl)) ?_
    refine JN rfl rfl rfl rfl rfl ?_
    refine JN rfl rfl rfl rfl rfl ?_
    refine JL_nil ?_
    refine JQ_then_n ?_
    refine J_seq ?_
    refine J_seq ?_
    refine J_keep (l' := [(0, _), (3, _), (5, _), (6, _), (7, _), (8, _), (31, _), (32, _), (33, _)]) ⟨rfl, rfl, rfl, rfl, rfl, rfl, rfl, rfl, rfl, trivial⟩ ?_
    refine J_reg ?_
    refine JM rfl rfl rfl rfl rfl ?_
    refine JP (rp1 rfl (fun ρ hx w => ex_not rfl hx)) ?_
    refine JL_nil ?_
    refine JQ_then_n ?_
    refine J_yes rfl rfl ?_
    refine J_exit ?_
    refine JQ_then_x ?_
    refine JQ_block_y rfl ?_
    refine JQ_then_n ?_
    refine J_keep (l' := [(0, _), (3, _), (31, _), (32, _), (33, _)]) ⟨rfl, rfl, rfl, rfl, rfl, trivial⟩ ?_
    refine J_reg ?_
    refine JP (rp2 rfl rfl (fun ρ hx hy w => ex_add rfl hx hy (by omega))) ?_
    refine JM rfl rfl rfl rfl rfl ?_
    refine JL_nil ?_
    have hsn : tmM m T G (k + 1) = tmM m T G k := by show gameM m _ _ _ = _; unfold gameM; rw [hmi]
    exact JQ_round (k + 1, N, c) ⟨by dsimp only; omega, by dsimp only; omega, by dsimp only; rw [hsn]; exact hv⟩ (by dsimp only; omega) ⟨rfl, rfl, rfl, rfl, (congrArg some (by go_num)), trivial⟩ (by (try dsimp only); rw [hsn]; repeat (first | exact Pk.nil _ | (refine Pk.pick (by repeat (first | exact Rm.here _ | apply Rm.there)) ?_)))
   ·refine J_keep (l' := [(0, _), (3, _), (5, _), (6, _), (31, _), (32, _), (33, _)]) ⟨rfl, rfl, rfl, rfl, rfl, rfl, rfl, trivial⟩ ?_
    refine J_reg ?_
    refine JM rfl rfl rfl rfl rfl ?_
    refine JP (rp_nil rfl rfl) ?_
    refine JP (rp_fieldC (off' := 3) rfl rfl fa_86_1 rfl) ?_
    refine JV (rv_old rfl rfl ag_66 (fun h => h) hp.c3) ?_
    refine JM rfl rfl rfl rfl rfl ?_
    refine JV (show RV _ _ _ _ _ _ (.tuple #[.int .i64 0, .bool true]) from (rv_lookOld2E K3 E3 (kt := 3) (e := 3) (f := m) (((k : Nat) : Int)) Try.underlying66 rfl rfl rfl (fun h => h) hmp rfl (by unfold W64; omega) hmi)) ?_
    refine JM rfl rfl rfl rfl rfl ?_
    refine JP (rp_run1 (f := fun u => Instr.extract u 0) (fun _ => rfl) rfl (fun _ => rfl)) ?_
    refine JP (rp_run1 (f := fun u => Instr.extract u 1) (fun _ => rfl) rfl (fun _ => rfl)) ?_
    refine JN rfl rfl rfl rfl rfl ?_
    refine JN rfl rfl rfl rfl rfl ?_
    refine JL_nil ?_
    refine JQ_then_n ?_
    refine J_seq ?_
    refine J_seq ?_
    refine J_keep (l' := [(0, _), (3, _), (5, _), (6, _), (7, _), (8, _), (31, _), (32, _), (33, _)]) ⟨rfl, rfl, rfl, rfl, rfl, rfl, rfl, rfl, rfl, trivial⟩ ?_
    refine J_reg ?_
    refine JM rfl rfl rfl rfl rfl ?_
    refine JP (rp1 rfl (fun ρ hx w => ex_not rfl hx)) ?_
    refine JL_nil ?_
    refine JQ_then_n ?_
    refine J_no rfl rfl ?_
    refine J_skip ?_
    refine JQ_then_n ?_
    refine J_seq ?_
    refine J_seq ?_
    rcases h1 : tmM m T G k (g.1) with _ | t1
    ·refine J_reg ?_
     refine JM rfl rfl rfl rfl rfl ?_
     refine JM rfl rfl rfl rfl rfl ?_
     refine JP (rp_arrC (off' := 0) rfl rfl rfl ia_90_0 rfl) ?_
     refine JV (rv_agg (cs := [_, _]) rfl rfl ag_89 sz_89 (by repeat constructor) (by rfl)) ?_
     refine JV (rv_look2E K89 E3 (kt := 89) (e := 3) (f := tmM m T G k) (g.1) Try.underlying123 rfl rfl rfl (by repeat constructor) rfl hgw.1 h1) ?_
     refine JM rfl rfl rfl rfl rfl ?_
     refine JP (rp_run1 (f := fun u => Instr.extract u 0) (fun _ => rfl) rfl (fun _ => rfl)) ?_
     refine JP (rp_run1 (f := fun u => Instr.extract u 1) (fun _ => rfl) rfl (fun _ => rfl)) ?_
     refine JN rfl rfl rfl rfl rfl ?_
     refine JN rfl rfl rfl rfl rfl ?_
     refine JL_nil ?_
     refine JQ_then_n ?_
     refine J_seq ?_
     refine J_keep (l' := [(0, _), (3, _), (5, _), (6, _), (7, _), (9, _), (10, _), (31, _), (32, _), (33, _)]) ⟨rfl, rfl, rfl, rfl, rfl, rfl, rfl, rfl, rfl, rfl, trivial⟩ ?_
     refine J_reg ?_
     refine JM rfl rfl rfl rfl rfl ?_
     refine JL_nil ?_
     refine JQ_then_n ?_
     refine J_no rfl rfl ?_
     refine J_skip ?_
     refine JQ_then_n ?_
     refine J_seq ?_
     have hv1 : ∀ x v, (tmM m T G k) x = some v → 0 ≤ v ∧ v < T := by
      intro x v h
      exact hv x v h
     rcases h2 : (tmM m T G k) (g.2) with _ | t2
     ·refine J_reg ?_
      refine JM rfl rfl rfl rfl rfl ?_
      refine JM rfl rfl rfl rfl rfl ?_
      refine JP (rp2 rfl rfl (fun ρ hx hy w => ex_sub rfl hx hy (by omega))) ?_
      refine JP (rp_arrC (off' := 2) rfl rfl rfl ia_90_1 rfl) ?_
      refine JV (rv_agg (cs := [_, _]) rfl rfl ag_89 sz_89 (by repeat constructor) (by rfl)) ?_
      refine JV (rv_look2E K89 E3 (kt := 89) (e := 3) (f := tmM m T G k) (g.2) Try.underlying123 rfl rfl rfl (by repeat constructor) rfl hgw.2 h2) ?_
      refine JM rfl rfl rfl rfl rfl ?_
      refine JP (rp_run1 (f := fun u => Instr.extract u 0) (fun _ => rfl) rfl (fun _ => rfl)) ?_
      refine JP (rp_run1 (f := fun u => Instr.extract u 1) (fun _ => rfl) rfl (fun _ => rfl)) ?_
      refine JN rfl rfl rfl rfl rfl ?_
      refine JN rfl rfl rfl rfl rfl ?_
      refine JL_nil ?_
      refine JQ_then_n ?_
      refine J_seq ?_
      refine J_keep (l' := [(0, _), (3, _), (5, _), (11, _), (12, _), (31, _), (32, _), (33, _)]) ⟨rfl, rfl, rfl, rfl, rfl, rfl, rfl, rfl, trivial⟩ ?_
      refine J_reg ?_
      refine JM rfl rfl rfl rfl rfl ?_
      refine JL_nil ?_
      refine JQ_then_n ?_
      refine J_no rfl rfl ?_
      refine J_skip ?_
      refine JQ_block_n ?_
      refine JQ_then_n ?_
      refine J_keep (l' := [(0, _), (3, _), (31, _), (32, _), (33, _)]) ⟨rfl, rfl, rfl, rfl, rfl, trivial⟩ ?_
      refine J_reg ?_
      refine JP (rp2 rfl rfl (fun ρ hx hy w => ex_add rfl hx hy (by omega))) ?_
      refine JM rfl rfl rfl rfl rfl ?_
      refine JL_nil ?_
      have hsn : tmM m T G (k + 1) = tmM m T G k := by
       show gameM m _ _ (G.getD k _) = _
       rw [hgd]
       unfold gameM
       rw [hmi]
       have hs1 : sideG g 0 = g.1 := rfl
       have hs2 : sideG g (1 - 0) = g.2 := rfl
       dsimp only
       rw [hs1, hs2, h1]
       dsimp only
       rw [h2]
      have hv2 : ∀ x v, tmM m T G (k + 1) x = some v → 0 ≤ v ∧ v < T := by
       rw [hsn]
       intro x v h
       exact hv x v h
      exact JQ_round (k + 1, N, _) ⟨by dsimp only; omega, by dsimp only; omega, hv2⟩ (by dsimp only; omega) ⟨rfl, rfl, rfl, rfl, (congrArg some (by go_num)), trivial⟩ (by (try dsimp only); rw [hsn]; repeat (first | exact Pk.nil _ | (refine Pk.pick (by repeat (first | exact Rm.here _ | apply Rm.there)) ?_)))
     ·have ht2 := hv1 _ _ h2
      refine J_reg ?_
      refine JM rfl rfl rfl rfl rfl ?_
      refine JM rfl rfl rfl rfl rfl ?_
      refine JP (rp2 rfl rfl (fun ρ hx hy w => ex_sub rfl hx hy (by omega))) ?_
      refine JP (rp_arrC (off' := 2) rfl rfl rfl ia_90_1 rfl) ?_
      refine JV (rv_agg (cs := [_, _]) rfl rfl ag_89 sz_89 (by repeat constructor) (by rfl)) ?_
      refine JV (rv_look2E K89 E3 (kt := 89) (e := 3) (f := tmM m T G k) (g.2) Try.underlying123 rfl rfl rfl (by repeat constructor) rfl hgw.2 h2) ?_
      refine JM rfl rfl rfl rfl rfl ?_
      refine JP (rp_run1 (f := fun u => Instr.extract u 0) (fun _ => rfl) rfl (fun _ => rfl)) ?_
      refine JP (rp_run1 (f := fun u => Instr.extract u 1) (fun _ => rfl) rfl (fun _ => rfl)) ?_
      refine JN rfl rfl rfl rfl rfl ?_
      refine JN rfl rfl rfl rfl rfl ?_
      refine JL_nil ?_
      refine JQ_then_n ?_
      refine J_seq ?_
      refine J_keep (l' := [(0, _), (3, _), (5, _), (11, _), (12, _), (31, _), (32, _), (33, _)]) ⟨rfl, rfl, rfl, rfl, rfl, rfl, rfl, rfl, trivial⟩ ?_
      refine J_reg ?_
      refine JM rfl rfl rfl rfl rfl ?_
      refine JL_nil ?_
      refine JQ_then_n ?_
      refine J_yes rfl rfl ?_
      refine J_reg ?_
      refine JM rfl rfl rfl rfl rfl ?_
      refine JM rfl rfl rfl rfl rfl ?_
      refine JL_op (wn0 rfl) (ow_callB (ec_fn rfl rfl cf_57) rfl rfl (fun w hw => loser57 k w)) (fun _ _ => ?_)
      refine JM rfl rfl rfl rfl rfl ?_
      refine JL_op (wn0 rfl) (ow_put K89 E3 (kt := 89) (e := 3) (m := N) ((2, ((k : Nat) : Int))) (t2) Try.underlying123 rfl rfl rfl rfl rfl rfl rfl (by repeat constructor) ⟨by unfold W64; dsimp only; omega, by unfold W64; dsimp only; omega⟩ (by unfold W64; omega) (by omega)) (fun _ _ => ?_)
      refine JL_nil ?_
      refine JQ_block_n ?_
      refine JQ_then_n ?_
      refine J_keep (l' := [(0, _), (3, _), (31, _), (32, _), (33, _)]) ⟨rfl, rfl, rfl, rfl, rfl, trivial⟩ ?_
      refine J_reg ?_
      refine JP (rp2 rfl rfl (fun ρ hx hy w => ex_add rfl hx hy (by omega))) ?_
      refine JM rfl rfl rfl rfl rfl ?_
      refine JL_nil ?_
      have hsn : tmM m T G (k + 1) = upd (tmM m T G k) (2, ((k : Nat) : Int)) t2 := by
       show gameM m _ _ (G.getD k _) = _
       rw [hgd]
       unfold gameM
       rw [hmi]
       have hs1 : sideG g 0 = g.1 := rfl
       have hs2 : sideG g (1 - 0) = g.2 := rfl
       dsimp only
       rw [hs1, hs2, h1]
       dsimp only
       rw [h2]
      have hv2 : ∀ x v, tmM m T G (k + 1) x = some v → 0 ≤ v ∧ v < T := by
       rw [hsn]
       intro x v h
       simp only [upd] at h
       split at h
       ·cases h; exact ht2
       ·exact hv x v h
      exact JQ_round (k + 1, N + 1, _) ⟨by dsimp only; omega, by dsimp only; omega, hv2⟩ (by dsimp only; omega) ⟨rfl, rfl, rfl, rfl, (congrArg some (by go_num)), trivial⟩ (by (try dsimp only); rw [hsn]; repeat (first | exact Pk.nil _ | (refine Pk.pick (by repeat (first | exact Rm.here _ | apply Rm.there)) ?_)))
    ·have ht1 := hv _ _ h1
     refine J_reg ?_
     refine JM rfl rfl rfl rfl rfl ?_
     refine JM rfl rfl rfl rfl rfl ?_
     refine JP (rp_arrC (off' := 0) rfl rfl rfl ia_90_0 rfl) ?_
     refine JV (rv_agg (cs := [_, _]) rfl rfl ag_89 sz_89 (by repeat constructor) (by rfl)) ?_
     refine JV (rv_look2E K89 E3 (kt := 89) (e := 3) (f := tmM m T G k) (g.1) Try.underlying123 rfl rfl rfl (by repeat constructor) rfl hgw.1 h1) ?_
     refine JM rfl rfl rfl rfl rfl ?_
     refine JP (rp_run1 (f := fun u => Instr.extract u 0) (fun _ => rfl) rfl (fun _ => rfl)) ?_
     refine JP (rp_run1 (f := fun u => Instr.extract u 1) (fun _ => rfl) rfl (fun _ => rfl)) ?_
     refine JN rfl rfl rfl rfl rfl ?_
     refine JN rfl rfl rfl rfl rfl ?_
     refine JL_nil ?_
     refine JQ_then_n ?_
     refine J_seq ?_
     refine J_keep (l' := [(0, _), (3, _), (5, _), (6, _), (7, _), (9, _), (10, _), (31, _), (32, _), (33, _)]) ⟨rfl, rfl, rfl, rfl, rfl, rfl, rfl, rfl, rfl, rfl, trivial⟩ ?_
     refine J_reg ?_
     refine JM rfl rfl rfl rfl rfl ?_
     refine JL_nil ?_
     refine JQ_then_n ?_
     refine J_yes rfl rfl ?_
     refine J_reg ?_
     refine JM rfl rfl rfl rfl rfl ?_
     refine JM rfl rfl rfl rfl rfl ?_
     refine JL_op (wn0 rfl) (ow_callB (ec_fn rfl rfl cf_58) rfl rfl (fun w hw => winner58 k w)) (fun _ _ => ?_)
     refine JM rfl rfl rfl rfl rfl ?_
     refine JL_op (wn0 rfl) (ow_put K89 E3 (kt := 89) (e := 3) (m := N) ((1, ((k : Nat) : Int))) (t1) Try.underlying123 rfl rfl rfl rfl rfl rfl rfl (by repeat constructor) ⟨by unfold W64; dsimp only; omega, by unfold W64; dsimp only; omega⟩ (by unfold W64; omega) (by omega)) (fun _ _ => ?_)
     refine JL_nil ?_
     refine JQ_then_n ?_
     refine J_seq ?_
     have hv1 : ∀ x v, (upd (tmM m T G k) (1, ((k : Nat) : Int)) t1) x = some v → 0 ≤ v ∧ v < T := by
      intro x v h
      simp only [upd] at h
      split at h
      ·cases h; exact ht1
      ·exact hv x v h
     rcases h2 : (upd (tmM m T G k) (1, ((k : Nat) : Int)) t1) (g.2) with _ | t2
     ·refine J_keep (l' := [(0, _), (3, _), (5, _), (6, _), (7, _), (31, _), (32, _), (33, _)]) ⟨rfl, rfl, rfl, rfl, rfl, rfl, rfl, rfl, trivial⟩ ?_
      refine J_reg ?_
      refine JM rfl rfl rfl rfl rfl ?_
      refine JM rfl rfl rfl rfl rfl ?_
      refine JP (rp2 rfl rfl (fun ρ hx hy w => ex_sub rfl hx hy (by omega))) ?_
      refine JP (rp_arrC (off' := 2) rfl rfl rfl ia_90_1 rfl) ?_
      refine JV (rv_agg (cs := [_, _]) rfl rfl ag_89 sz_89 (by repeat constructor) (by rfl)) ?_
      refine JV (rv_look2E K89 E3 (kt := 89) (e := 3) (f := upd (tmM m T G k) (1, ((k : Nat) : Int)) t1) (g.2) Try.underlying123 rfl rfl rfl (by repeat constructor) rfl hgw.2 h2) ?_
      refine JM rfl rfl rfl rfl rfl ?_
      refine JP (rp_run1 (f := fun u => Instr.extract u 0) (fun _ => rfl) rfl (fun _ => rfl)) ?_
      refine JP (rp_run1 (f := fun u => Instr.extract u 1) (fun _ => rfl) rfl (fun _ => rfl)) ?_
      refine JN rfl rfl rfl rfl rfl ?_
      refine JN rfl rfl rfl rfl rfl ?_
      refine JL_nil ?_
      refine JQ_then_n ?_
      refine J_seq ?_
      refine J_keep (l' := [(0, _), (3, _), (5, _), (11, _), (12, _), (31, _), (32, _), (33, _)]) ⟨rfl, rfl, rfl, rfl, rfl, rfl, rfl, rfl, trivial⟩ ?_
      refine J_reg ?_
      refine JM rfl rfl rfl rfl rfl ?_
      refine JL_nil ?_
      refine JQ_then_n ?_
      refine J_no rfl rfl ?_
      refine J_skip ?_
      refine JQ_block_n ?_
      refine JQ_then_n ?_
      refine J_keep (l' := [(0, _), (3, _), (31, _), (32, _), (33, _)]) ⟨rfl, rfl, rfl, rfl, rfl, trivial⟩ ?_
      refine J_reg ?_
      refine JP (rp2 rfl rfl (fun ρ hx hy w => ex_add rfl hx hy (by omega))) ?_
      refine JM rfl rfl rfl rfl rfl ?_
      refine JL_nil ?_
      have hsn : tmM m T G (k + 1) = upd (tmM m T G k) (1, ((k : Nat) : Int)) t1 := by
       show gameM m _ _ (G.getD k _) = _
       rw [hgd]
       unfold gameM
       rw [hmi]
       have hs1 : sideG g 0 = g.1 := rfl
       have hs2 : sideG g (1 - 0) = g.2 := rfl
       dsimp only
       rw [hs1, hs2, h1]
       dsimp only
       rw [h2]
      have hv2 : ∀ x v, tmM m T G (k + 1) x = some v → 0 ≤ v ∧ v < T := by
       rw [hsn]
       intro x v h
       simp only [upd] at h
       split at h
       ·cases h; exact ht1
       ·exact hv x v h
      exact JQ_round (k + 1, N + 1, _) ⟨by dsimp only; omega, by dsimp only; omega, hv2⟩ (by dsimp only; omega) ⟨rfl, rfl, rfl, rfl, (congrArg some (by go_num)), trivial⟩ (by (try dsimp only); rw [hsn]; repeat (first | exact Pk.nil _ | (refine Pk.pick (by repeat (first | exact Rm.here _ | apply Rm.there)) ?_)))
     ·have ht2 := hv1 _ _ h2
      refine J_keep (l' := [(0, _), (3, _), (5, _), (6, _), (7, _), (31, _), (32, _), (33, _)]) ⟨rfl, rfl, rfl, rfl, rfl, rfl, rfl, rfl, trivial⟩ ?_
      refine J_reg ?_
      refine JM rfl rfl rfl rfl rfl ?_
      refine JM rfl rfl rfl rfl rfl ?_
      refine JP (rp2 rfl rfl (fun ρ hx hy w => ex_sub rfl hx hy (by omega))) ?_
      refine JP (rp_arrC (off' := 2) rfl rfl rfl ia_90_1 rfl) ?_
      refine JV (rv_agg (cs := [_, _]) rfl rfl ag_89 sz_89 (by repeat constructor) (by rfl)) ?_
      refine JV (rv_look2E K89 E3 (kt := 89) (e := 3) (f := upd (tmM m T G k) (1, ((k : Nat) : Int)) t1) (g.2) Try.underlying123 rfl rfl rfl (by repeat constructor) rfl hgw.2 h2) ?_
      refine JM rfl rfl rfl rfl rfl ?_
      refine JP (rp_run1 (f := fun u => Instr.extract u 0) (fun _ => rfl) rfl (fun _ => rfl)) ?_
      refine JP (rp_run1 (f := fun u => Instr.extract u 1) (fun _ => rfl) rfl (fun _ => rfl)) ?_
      refine JN rfl rfl rfl rfl rfl ?_
      refine JN rfl rfl rfl rfl rfl ?_
      refine JL_nil ?_
      refine JQ_then_n ?_
      refine J_seq ?_
      refine J_keep (l' := [(0, _), (3, _), (5, _), (11, _), (12, _), (31, _), (32, _), (33, _)]) ⟨rfl, rfl, rfl, rfl, rfl, rfl, rfl, rfl, trivial⟩ ?_
      refine J_reg ?_
      refine JM rfl rfl rfl rfl rfl ?_
      refine JL_nil ?_
      refine JQ_then_n ?_
      refine J_yes rfl rfl ?_
      refine J_reg ?_
      refine JM rfl rfl rfl rfl rfl ?_
      refine JM rfl rfl rfl rfl rfl ?_
      refine JL_op (wn0 rfl) (ow_callB (ec_fn rfl rfl cf_57) rfl rfl (fun w hw => loser57 k w)) (fun _ _ => ?_)
      refine JM rfl rfl rfl rfl rfl ?_
      refine JL_op (wn0 rfl) (ow_put K89 E3 (kt := 89) (e := 3) (m := N + 1) ((2, ((k : Nat) : Int))) (t2) Try.underlying123 rfl rfl rfl rfl rfl rfl rfl (by repeat constructor) ⟨by unfold W64; dsimp only; omega, by unfold W64; dsimp only; omega⟩ (by unfold W64; omega) (by omega)) (fun _ _ => ?_)
      refine JL_nil ?_
      refine JQ_block_n ?_
      refine JQ_then_n ?_
      refine J_keep (l' := [(0, _), (3, _), (31, _), (32, _), (33, _)]) ⟨rfl, rfl, rfl, rfl, rfl, trivial⟩ ?_
      refine J_reg ?_
      refine JP (rp2 rfl rfl (fun ρ hx hy w => ex_add rfl hx hy (by omega))) ?_
      refine JM rfl rfl rfl rfl rfl ?_
      refine JL_nil ?_
      have hsn : tmM m T G (k + 1) = upd (upd (tmM m T G k) (1, ((k : Nat) : Int)) t1) (2, ((k : Nat) : Int)) t2 := by
       show gameM m _ _ (G.getD k _) = _
       rw [hgd]
       unfold gameM
       rw [hmi]
       have hs1 : sideG g 0 = g.1 := rfl
       have hs2 : sideG g (1 - 0) = g.2 := rfl
       dsimp only
       rw [hs1, hs2, h1]
       dsimp only
       rw [h2]
      have hv2 : ∀ x v, tmM m T G (k + 1) x = some v → 0 ≤ v ∧ v < T := by
       rw [hsn]
       intro x v h
       simp only [upd] at h
       split at h
       ·cases h; exact ht2
       ·split at h
        ·cases h; exact ht1
        ·exact hv x v h
      exact JQ_round (k + 1, N + 1 + 1, _) ⟨by dsimp only; omega, by dsimp only; omega, hv2⟩ (by dsimp only; omega) ⟨rfl, rfl, rfl, rfl, (congrArg some (by go_num)), trivial⟩ (by (try dsimp only); rw [hsn]; repeat (first | exact Pk.nil _ | (refine Pk.pick (by repeat (first | exact Rm.here _ | apply Rm.there)) ?_)))
   ·refine J_keep (l' := [(0, _), (3, _), (5, _), (6, _), (31, _), (32, _), (33, _)]) ⟨rfl, rfl, rfl, rfl, rfl, rfl, rfl, trivial⟩ ?_
    refine J_reg ?_
    refine JM rfl rfl rfl rfl rfl ?_
    refine JP (rp_nil rfl rfl) ?_
    refine JP (rp_fieldC (off' := 3) rfl rfl fa_86_1 rfl) ?_
    refine JV (rv_old rfl rfl ag_66 (fun h => h) hp.c3) ?_
    refine JM rfl rfl rfl rfl rfl ?_
    refine JV (show RV _ _ _ _ _ _ (.tuple #[.int .i64 1, .bool true]) from (rv_lookOld2E K3 E3 (kt := 3) (e := 3) (f := m) (((k : Nat) : Int)) Try.underlying66 rfl rfl rfl (fun h => h) hmp rfl (by unfold W64; omega) hmi)) ?_
    refine JM rfl rfl rfl rfl rfl ?_
    refine JP (rp_run1 (f := fun u => Instr.extract u 0) (fun _ => rfl) rfl (fun _ => rfl)) ?_
    refine JP (rp_run1 (f := fun u => Instr.extract u 1) (fun _ => rfl) rfl (fun _ => rfl)) ?_
    refine JN rfl rfl rfl rfl rfl ?_
    refine JN rfl rfl rfl rfl rfl ?_
    refine JL_nil ?_
    refine JQ_then_n ?_
    refine J_seq ?_
    refine J_seq ?_
    refine J_keep (l' := [(0, _), (3, _), (5, _), (6, _), (7, _), (8, _), (31, _), (32, _), (33, _)]) ⟨rfl, rfl, rfl, rfl, rfl, rfl, rfl, rfl, rfl, trivial⟩ ?_
    refine J_reg ?_
    refine JM rfl rfl rfl rfl rfl ?_
    refine JP (rp1 rfl (fun ρ hx w => ex_not rfl hx)) ?_
    refine JL_nil ?_
    refine JQ_then_n ?_
    refine J_no rfl rfl ?_
    refine J_skip ?_
    refine JQ_then_n ?_
    refine J_seq ?_
    refine J_seq ?_
    rcases h1 : tmM m T G k (g.2) with _ | t1
    ·refine J_reg ?_
     refine JM rfl rfl rfl rfl rfl ?_
     refine JM rfl rfl rfl rfl rfl ?_
     refine JP (rp_arrC (off' := 2) rfl rfl rfl ia_90_1 rfl) ?_
     refine JV (rv_agg (cs := [_, _]) rfl rfl ag_89 sz_89 (by repeat constructor) (by rfl)) ?_
     refine JV (rv_look2E K89 E3 (kt := 89) (e := 3) (f := tmM m T G k) (g.2) Try.underlying123 rfl rfl rfl (by repeat constructor) rfl hgw.2 h1) ?_
     refine JM rfl rfl rfl rfl rfl ?_
     refine JP (rp_run1 (f := fun u => Instr.extract u 0) (fun _ => rfl) rfl (fun _ => rfl)) ?_
     refine JP (rp_run1 (f := fun u => Instr.extract u 1) (fun _ => rfl) rfl (fun _ => rfl)) ?_
     refine JN rfl rfl rfl rfl rfl ?_
     refine JN rfl rfl rfl rfl rfl ?_
     refine JL_nil ?_
     refine JQ_then_n ?_
     refine J_seq ?_
     refine J_keep (l' := [(0, _), (3, _), (5, _), (6, _), (7, _), (9, _), (10, _), (31, _), (32, _), (33, _)]) ⟨rfl, rfl, rfl, rfl, rfl, rfl, rfl, rfl, rfl, rfl, trivial⟩ ?_
     refine J_reg ?_
     refine JM rfl rfl rfl rfl rfl ?_
     refine JL_nil ?_
     refine JQ_then_n ?_
     refine J_no rfl rfl ?_
     refine J_skip ?_
     refine JQ_then_n ?_
     refine J_seq ?_
     have hv1 : ∀ x v, (tmM m T G k) x = some v → 0 ≤ v ∧ v < T := by
      intro x v h
      exact hv x v h
     rcases h2 : (tmM m T G k) (g.1) with _ | t2
     ·refine J_reg ?_
      refine JM rfl rfl rfl rfl rfl ?_
      refine JM rfl rfl rfl rfl rfl ?_
      refine JP (rp2 rfl rfl (fun ρ hx hy w => ex_sub rfl hx hy (by omega))) ?_
      refine JP (rp_arrC (off' := 0) rfl rfl rfl ia_90_0 rfl) ?_
      refine JV (rv_agg (cs := [_, _]) rfl rfl ag_89 sz_89 (by repeat constructor) (by rfl)) ?_
      refine JV (rv_look2E K89 E3 (kt := 89) (e := 3) (f := tmM m T G k) (g.1) Try.underlying123 rfl rfl rfl (by repeat constructor) rfl hgw.1 h2) ?_
      refine JM rfl rfl rfl rfl rfl ?_
      refine JP (rp_run1 (f := fun u => Instr.extract u 0) (fun _ => rfl) rfl (fun _ => rfl)) ?_
      refine JP (rp_run1 (f := fun u => Instr.extract u 1) (fun _ => rfl) rfl (fun _ => rfl)) ?_
      refine JN rfl rfl rfl rfl rfl ?_
      refine JN rfl rfl rfl rfl rfl ?_
      refine JL_nil ?_
      refine JQ_then_n ?_
      refine J_seq ?_
      refine J_keep (l' := [(0, _), (3, _), (5, _), (11, _), (12, _), (31, _), (32, _), (33, _)]) ⟨rfl, rfl, rfl, rfl, rfl, rfl, rfl, rfl, trivial⟩ ?_
      refine J_reg ?_
      refine JM rfl rfl rfl rfl rfl ?_
      refine JL_nil ?_
      refine JQ_then_n ?_
      refine J_no rfl rfl ?_
      refine J_skip ?_
      refine JQ_block_n ?_
      refine JQ_then_n ?_
      refine J_keep (l' := [(0, _), (3, _), (31, _), (32, _), (33, _)]) ⟨rfl, rfl, rfl, rfl, rfl, trivial⟩ ?_
      refine J_reg ?_
      refine JP (rp2 rfl rfl (fun ρ hx hy w => ex_add rfl hx hy (by omega))) ?_
      refine JM rfl rfl rfl rfl rfl ?_
      refine JL_nil ?_
      have hsn : tmM m T G (k + 1) = tmM m T G k := by
       show gameM m _ _ (G.getD k _) = _
       rw [hgd]
       unfold gameM
       rw [hmi]
       have hs1 : sideG g 1 = g.2 := rfl
       have hs2 : sideG g (1 - 1) = g.1 := rfl
       dsimp only
       rw [hs1, hs2, h1]
       dsimp only
       rw [h2]
      have hv2 : ∀ x v, tmM m T G (k + 1) x = some v → 0 ≤ v ∧ v < T := by
       rw [hsn]
       intro x v h
       exact hv x v h
      exact JQ_round (k + 1, N, _) ⟨by dsimp only; omega, by dsimp only; omega, hv2⟩ (by dsimp only; omega) ⟨rfl, rfl, rfl, rfl, (congrArg some (by go_num)), trivial⟩ (by (try dsimp only); rw [hsn]; repeat (first | exact Pk.nil _ | (refine Pk.pick (by repeat (first | exact Rm.here _ | apply Rm.there)) ?_)))
     ·have ht2 := hv1 _ _ h2
      refine J_reg ?_
      refine JM rfl rfl rfl rfl rfl ?_
      refine JM rfl rfl rfl rfl rfl ?_
      refine JP (rp2 rfl rfl (fun ρ hx hy w => ex_sub rfl hx hy (by omega))) ?_
      refine JP (rp_arrC (off' := 0) rfl rfl rfl ia_90_0 rfl) ?_
      refine JV (rv_agg (cs := [_, _]) rfl rfl ag_89 sz_89 (by repeat constructor) (by rfl)) ?_
      refine JV (rv_look2E K89 E3 (kt := 89) (e := 3) (f := tmM m T G k) (g.1) Try.underlying123 rfl rfl rfl (by repeat constructor) rfl hgw.1 h2) ?_
      refine JM rfl rfl rfl rfl rfl ?_
      refine JP (rp_run1 (f := fun u => Instr.extract u 0) (fun _ => rfl) rfl (fun _ => rfl)) ?_
      refine JP (rp_run1 (f := fun u => Instr.extract u 1) (fun _ => rfl) rfl (fun _ => rfl)) ?_
      refine JN rfl rfl rfl rfl rfl ?_
      refine JN rfl rfl rfl rfl rfl ?_
      refine JL_nil ?_
      refine JQ_then_n ?_
      refine J_seq ?_
      refine J_keep (l' := [(0, _), (3, _), (5, _), (11, _), (12, _), (31, _), (32, _), (33, _)]) ⟨rfl, rfl, rfl, rfl, rfl, rfl, rfl, rfl, trivial⟩ ?_
      refine J_reg ?_
      refine JM rfl rfl rfl rfl rfl ?_
      refine JL_nil ?_
      refine JQ_then_n ?_
      refine J_yes rfl rfl ?_
      refine J_reg ?_
      refine JM rfl rfl rfl rfl rfl ?_
      refine JM rfl rfl rfl rfl rfl ?_
      refine JL_op (wn0 rfl) (ow_callB (ec_fn rfl rfl cf_57) rfl rfl (fun w hw => loser57 k w)) (fun _ _ => ?_)
      refine JM rfl rfl rfl rfl rfl ?_
      refine JL_op (wn0 rfl) (ow_put K89 E3 (kt := 89) (e := 3) (m := N) ((2, ((k : Nat) : Int))) (t2) Try.underlying123 rfl rfl rfl rfl rfl rfl rfl (by repeat constructor) ⟨by unfold W64; dsimp only; omega, by unfold W64; dsimp only; omega⟩ (by unfold W64; omega) (by omega)) (fun _ _ => ?_)
      refine JL_nil ?_
      refine JQ_block_n ?_
      refine JQ_then_n ?_
      refine J_keep (l' := [(0, _), (3, _), (31, _), (32, _), (33, _)]) ⟨rfl, rfl, rfl, rfl, rfl, trivial⟩ ?_
      refine J_reg ?_
      refine JP (rp2 rfl rfl (fun ρ hx hy w => ex_add rfl hx hy (by omega))) ?_
      refine JM rfl rfl rfl rfl rfl ?_
      refine JL_nil ?_
      have hsn : tmM m T G (k + 1) = upd (tmM m T G k) (2, ((k : Nat) : Int)) t2 := by
       show gameM m _ _ (G.getD k _) = _
       rw [hgd]
       unfold gameM
       rw [hmi]
       have hs1 : sideG g 1 = g.2 := rfl
       have hs2 : sideG g (1 - 1) = g.1 := rfl
       dsimp only
       rw [hs1, hs2, h1]
       dsimp only
       rw [h2]
      have hv2 : ∀ x v, tmM m T G (k + 1) x = some v → 0 ≤ v ∧ v < T := by
       rw [hsn]
       intro x v h
       simp only [upd] at h
       split at h
       ·cases h; exact ht2
       ·exact hv x v h
      exact JQ_round (k + 1, N + 1, _) ⟨by dsimp only; omega, by dsimp only; omega, hv2⟩ (by dsimp only; omega) ⟨rfl, rfl, rfl, rfl, (congrArg some (by go_num)), trivial⟩ (by (try dsimp only); rw [hsn]; repeat (first | exact Pk.nil _ | (refine Pk.pick (by repeat (first | exact Rm.here _ | apply Rm.there)) ?_)))
    ·have ht1 := hv _ _ h1
     refine J_reg ?_
     refine JM rfl rfl rfl rfl rfl ?_
     refine JM rfl rfl rfl rfl rfl ?_
     refine JP (rp_arrC (off' := 2) rfl rfl rfl ia_90_1 rfl) ?_
     refine JV (rv_agg (cs := [_, _]) rfl rfl ag_89 sz_89 (by repeat constructor) (by rfl)) ?_
     refine JV (rv_look2E K89 E3 (kt := 89) (e := 3) (f := tmM m T G k) (g.2) Try.underlying123 rfl rfl rfl (by repeat constructor) rfl hgw.2 h1) ?_
     refine JM rfl rfl rfl rfl rfl ?_
     refine JP (rp_run1 (f := fun u => Instr.extract u 0) (fun _ => rfl) rfl (fun _ => rfl)) ?_
     refine JP (rp_run1 (f := fun u => Instr.extract u 1) (fun _ => rfl) rfl (fun _ => rfl)) ?_
     refine JN rfl rfl rfl rfl rfl ?_
     refine JN rfl rfl rfl rfl rfl ?_
     refine JL_nil ?_
     refine JQ_then_n ?_
     refine J_seq ?_
     refine J_keep (l' := [(0, _), (3, _), (5, _), (6, _), (7, _), (9, _), (10, _), (31, _), (32, _), (33, _)]) ⟨rfl, rfl, rfl, rfl, rfl, rfl, rfl, rfl, rfl, rfl, trivial⟩ ?_
     refine J_reg ?_
     refine JM rfl rfl rfl rfl rfl ?_
     refine JL_nil ?_
     refine JQ_then_n ?_
     refine J_yes rfl rfl ?_
     refine J_reg ?_
     refine JM rfl rfl rfl rfl rfl ?_
     refine JM rfl rfl rfl rfl rfl ?_
     refine JL_op (wn0 rfl) (ow_callB (ec_fn rfl rfl cf_58) rfl rfl (fun w hw => winner58 k w)) (fun _ _ => ?_)
     refine JM rfl rfl rfl rfl rfl ?_
     refine JL_op (wn0 rfl) (ow_put K89 E3 (kt := 89) (e := 3) (m := N) ((1, ((k : Nat) : Int))) (t1) Try.underlying123 rfl rfl rfl rfl rfl rfl rfl (by repeat constructor) ⟨by unfold W64; dsimp only; omega, by unfold W64; dsimp only; omega⟩ (by unfold W64; omega) (by omega)) (fun _ _ => ?_)
     refine JL_nil ?_
     refine JQ_then_n ?_
     refine J_seq ?_
     have hv1 : ∀ x v, (upd (tmM m T G k) (1, ((k : Nat) : Int)) t1) x = some v → 0 ≤ v ∧ v < T := by
      intro x v h
      simp only [upd] at h
      split at h
      ·cases h; exact ht1
      ·exact hv x v h
     rcases h2 : (upd (tmM m T G k) (1, ((k : Nat) : Int)) t1) (g.1) with _ | t2
     ·refine J_keep (l' := [(0, _), (3, _), (5, _), (6, _), (7, _), (31, _), (32, _), (33, _)]) ⟨rfl, rfl, rfl, rfl, rfl, rfl, rfl, rfl, trivial⟩ ?_
      refine J_reg ?_
      refine JM rfl rfl rfl rfl rfl ?_
      refine JM rfl rfl rfl rfl rfl ?_
      refine JP (rp2 rfl rfl (fun ρ hx hy w => ex_sub rfl hx hy (by omega))) ?_
      refine JP (rp_arrC (off' := 0) rfl rfl rfl ia_90_0 rfl) ?_
      refine JV (rv_agg (cs := [_, _]) rfl rfl ag_89 sz_89 (by repeat constructor) (by rfl)) ?_
      refine JV (rv_look2E K89 E3 (kt := 89) (e := 3) (f := upd (tmM m T G k) (1, ((k : Nat) : Int)) t1) (g.1) Try.underlying123 rfl rfl rfl (by repeat constructor) rfl hgw.1 h2) ?_
      refine JM rfl rfl rfl rfl rfl ?_
      refine JP (rp_run1 (f := fun u => Instr.extract u 0) (fun _ => rfl) rfl (fun _ => rfl)) ?_
      refine JP (rp_run1 (f := fun u => Instr.extract u 1) (fun _ => rfl) rfl (fun _ => rfl)) ?_
      refine JN rfl rfl rfl rfl rfl ?_
      refine JN rfl rfl rfl rfl rfl ?_
      refine JL_nil ?_
      refine JQ_then_n ?_
      refine J_seq ?_
      refine J_keep (l' := [(0, _), (3, _), (5, _), (11, _), (12, _), (31, _), (32, _), (33, _)]) ⟨rfl, rfl, rfl, rfl, rfl, rfl, rfl, rfl, trivial⟩ ?_
      refine J_reg ?_
      refine JM rfl rfl rfl rfl rfl ?_
      refine JL_nil ?_
      refine JQ_then_n ?_
      refine J_no rfl rfl ?_
      refine J_skip ?_
      refine JQ_block_n ?_
      refine JQ_then_n ?_
      refine J_keep (l' := [(0, _), (3, _), (31, _), (32, _), (33, _)]) ⟨rfl, rfl, rfl, rfl, rfl, trivial⟩ ?_
      refine J_reg ?_
      refine JP (rp2 rfl rfl (fun ρ hx hy w => ex_add rfl hx hy (by omega))) ?_
      refine JM rfl rfl rfl rfl rfl ?_
      refine JL_nil ?_
      have hsn : tmM m T G (k + 1) = upd (tmM m T G k) (1, ((k : Nat) : Int)) t1 := by
       show gameM m _ _ (G.getD k _) = _
       rw [hgd]
       unfold gameM
       rw [hmi]
       have hs1 : sideG g 1 = g.2 := rfl
       have hs2 : sideG g (1 - 1) = g.1 := rfl
       dsimp only
       rw [hs1, hs2, h1]
       dsimp only
       rw [h2]
      have hv2 : ∀ x v, tmM m T G (k + 1) x = some v → 0 ≤ v ∧ v < T := by
       rw [hsn]
       intro x v h
       simp only [upd] at h
       split at h
       ·cases h; exact ht1
       ·exact hv x v h
      exact JQ_round (k + 1, N + 1, _) ⟨by dsimp only; omega, by dsimp only; omega, hv2⟩ (by dsimp only; omega) ⟨rfl, rfl, rfl, rfl, (congrArg some (by go_num)), trivial⟩ (by (try dsimp only); rw [hsn]; repeat (first | exact Pk.nil _ | (refine Pk.pick (by repeat (first | exact Rm.here _ | apply Rm.there)) ?_)))
     ·have ht2 := hv1 _ _ h2
      refine J_keep (l' := [(0, _), (3, _), (5, _), (6, _), (7, _), (31, _), (32, _), (33, _)]) ⟨rfl, rfl, rfl, rfl, rfl, rfl, rfl, rfl, trivial⟩ ?_
      refine J_reg ?_
      refine JM rfl rfl rfl rfl rfl ?_
      refine JM rfl rfl rfl rfl rfl ?_
      refine JP (rp2 rfl rfl (fun ρ hx hy w => ex_sub rfl hx hy (by omega))) ?_
      refine JP (rp_arrC (off' := 0) rfl rfl rfl ia_90_0 rfl) ?_
      refine JV (rv_agg (cs := [_, _]) rfl rfl ag_89 sz_89 (by repeat constructor) (by rfl)) ?_
      refine JV (rv_look2E K89 E3 (kt := 89) (e := 3) (f := upd (tmM m T G k) (1, ((k : Nat) : Int)) t1) (g.1) Try.underlying123 rfl rfl rfl (by repeat constructor) rfl hgw.1 h2) ?_
      refine JM rfl rfl rfl rfl rfl ?_
      refine JP (rp_run1 (f := fun u => Instr.extract u 0) (fun _ => rfl) rfl (fun _ => rfl)) ?_
      refine JP (rp_run1 (f := fun u => Instr.extract u 1) (fun _ => rfl) rfl (fun _ => rfl)) ?_
      refine JN rfl rfl rfl rfl rfl ?_
      refine JN rfl rfl rfl rfl rfl ?_
      refine JL_nil ?_
      refine JQ_then_n ?_
      refine J_seq ?_
      refine J_keep (l' := [(0, _), (3, _), (5, _), (11, _), (12, _), (31, _), (32, _), (33, _)]) ⟨rfl, rfl, rfl, rfl, rfl, rfl, rfl, rfl, trivial⟩ ?_
      refine J_reg ?_
      refine JM rfl rfl rfl rfl rfl ?_
      refine JL_nil ?_
      refine JQ_then_n ?_
      refine J_yes rfl rfl ?_
      refine J_reg ?_
      refine JM rfl rfl rfl rfl rfl ?_
      refine JM rfl rfl rfl rfl rfl ?_
      refine JL_op (wn0 rfl) (ow_callB (ec_fn rfl rfl cf_57) rfl rfl (fun w hw => loser57 k w)) (fun _ _ => ?_)
      refine JM rfl rfl rfl rfl rfl ?_
      refine JL_op (wn0 rfl) (ow_put K89 E3 (kt := 89) (e := 3) (m := N + 1) ((2, ((k : Nat) : Int))) (t2) Try.underlying123 rfl rfl rfl rfl rfl rfl rfl (by repeat constructor) ⟨by unfold W64; dsimp only; omega, by unfold W64; dsimp only; omega⟩ (by unfold W64; omega) (by omega)) (fun _ _ => ?_)
      refine JL_nil ?_
      refine JQ_block_n ?_
      refine JQ_then_n ?_
      refine J_keep (l' := [(0, _), (3, _), (31, _), (32, _), (33, _)]) ⟨rfl, rfl, rfl, rfl, rfl, trivial⟩ ?_
      refine J_reg ?_
      refine JP (rp2 rfl rfl (fun ρ hx hy w => ex_add rfl hx hy (by omega))) ?_
      refine JM rfl rfl rfl rfl rfl ?_
      refine JL_nil ?_
      have hsn : tmM m T G (k + 1) = upd (upd (tmM m T G k) (1, ((k : Nat) : Int)) t1) (2, ((k : Nat) : Int)) t2 := by
       show gameM m _ _ (G.getD k _) = _
       rw [hgd]
       unfold gameM
       rw [hmi]
       have hs1 : sideG g 1 = g.2 := rfl
       have hs2 : sideG g (1 - 1) = g.1 := rfl
       dsimp only
       rw [hs1, hs2, h1]
       dsimp only
       rw [h2]
      have hv2 : ∀ x v, tmM m T G (k + 1) x = some v → 0 ≤ v ∧ v < T := by
       rw [hsn]
       intro x v h
       simp only [upd] at h
       split at h
       ·cases h; exact ht2
       ·split at h
        ·cases h; exact ht1
        ·exact hv x v h
      exact JQ_round (k + 1, N + 1 + 1, _) ⟨by dsimp only; omega, by dsimp only; omega, hv2⟩ (by dsimp only; omega) ⟨rfl, rfl, rfl, rfl, (congrArg some (by go_num)), trivial⟩ (by (try dsimp only); rw [hsn]; repeat (first | exact Pk.nil _ | (refine Pk.pick (by repeat (first | exact Rm.here _ | apply Rm.there)) ?_)))
  ·refine JL_nil ?_
   refine JQ_then_n ?_
   refine J_seq ?_
   refine J_no rfl rfl ?_
   refine J_exit ?_
   refine JQ_then_x ?_
   refine JQ_then_x ?_
   refine JQ_block_y rfl ?_
   refine JQ_then_n ?_
   refine J_seq ?_
   refine J_keep (l' := [(3, _)]) ⟨rfl, trivial⟩ ?_
   refine J_reg ?_
   refine JM rfl rfl rfl rfl rfl ?_
   refine JN rfl rfl rfl rfl rfl ?_
   refine JL_nil ?_
   refine JQ_then_n ?_
   refine J_ret ?_
   refine JR_one rfl (rr_tmp rfl) ?_
   intro w' hw
   obtain rfl : k = G.length := by omega
   exact ⟨(b13, N, c), ⟨by dsimp only; omega, hv⟩, rfl, hw.pick (by repeat constructor)⟩
end Go.Proofs.Ytlfbbofcnonhdaa
