/- A playdown that no call made; a slice that is spoiled; three operations that may come up. -/
import Derived.Test.YtlfbbofcnonhdaaCq
namespace Go.Proofs.Ytlfbbofcnonhdaa
open Go Go.RowKit Go.Proofs

section
open Go
variable {P : Program} {n : Nat} {B : Bs} {Q : Exit → Act → World → Prop} {ops : Array Oper} {l : Sl} {H : List It} {o : Oper} {ld lx : List Nat} {H0 Hx : List It} {fuel : Nat} {listed : Array Bool}
/-- One operation that may come up. -/
def St1 (P : Program) (n : Nat) (B : Bs) (ops : Array Oper) (Q : Exit → Act → World → Prop) (ld : List Nat) (H0 : List It) (lx : List Nat) (Hx : List It) (fuel : Nat) (listed : Array Bool) (l : Sl) (H : List It) (i : Nat) : Prop :=
  ∀ a w, Fr n l a → Wd B H w → wpOp P ops (NQ Q) i (fun a' w' => (∀ k, frB .any ops i k = true → SR B ld H0 lx Hx k w → SR B ld H0 lx Hx k w') ∧ wpAnyP P .any ops (NQ Q) (SR B ld H0 lx Hx) fuel (listed.setIfInBounds i true) a' w') a w
theorem St1_mk {i : Nat} {m : Option It} {T : Type} {φ : T → Prop} {D : T → Sl} {G : T → List It} (hi : ops[i]? = some o) (hW : WN ops n l o true) (h : OpW P n B m l H o φ D G) (hm : Kp ops ld lx Hx H i m)
    (k : ∀ t, φ t → JA P n B ops Q ld H0 lx Hx fuel (listed.setIfInBounds i true) (D t) (G t)) : St1 P n B ops Q ld H0 lx Hx fuel listed l H i := fun a w ha hw =>
  wpOp_wp hi (hW a ha) (h a w _ _ ha hw (fun t a' w' h1 h2 h3 hb => ⟨SR_kept hw hm hb, k t h1 a' w' h2 h3⟩))
theorem JA_three {i j k : Nat} (hr : Region.ready .any ops listed = [i, j, k]) (h1 : St1 P n B ops Q ld H0 lx Hx fuel listed l H i) (h2 : St1 P n B ops Q ld H0 lx Hx fuel listed l H j) (h3 : St1 P n B ops Q ld H0 lx Hx fuel listed l H k) : JA P n B ops Q ld H0 lx Hx (fuel + 1) listed l H := fun a w ha hw =>
  ⟨fun h0 => by (rw [hr] at h0; cases h0), fun q hq => by
    rw [hr] at hq
    simp only [List.mem_cons, List.not_mem_nil, or_false] at hq
    rcases hq with rfl | rfl | rfl
    · exact h1 a w ha hw
    · exact h2 a w ha hw
    · exact h3 a w ha hw⟩
theorem JA_pair {i j : Nat} (hr : Region.ready .any ops listed = [i, j]) (h1 : St1 P n B ops Q ld H0 lx Hx fuel listed l H i) (h2 : St1 P n B ops Q ld H0 lx Hx fuel listed l H j) : JA P n B ops Q ld H0 lx Hx (fuel + 1) listed l H := fun a w ha hw => wpAnyP_two hr (h1 a w ha hw) (h2 a w ha hw)
/-- A slice without elements. -/
theorem ow_slice0 {d k : Nat} {t ty : TypeId} (ho : o.op = .buildSlice t 0 #[]) (hd : o.dst = some d) (hn : Nat.ble n d = false) (hf : ∀ w, (Instr.buildSlice t 0 #[]).run P w = .ok (.slice (some ⟨w.heap.size, 0, none⟩) 0 0) (w.alloc (.cells #[] ty))) :
    OpW P n B none l H o (fun b : Nat => B.w.heap.size ≤ b) (fun b => (d, .slice (some ⟨b, 0, none⟩) 0 0) :: l) (fun b => ownB ty k (some ⟨b, 0, none⟩) 0 0 [] :: H) := fun a w K Q ha hw hK =>
  ow_sliceC (ps := []) (us := []) (vs := []) ho rfl rfl hd hn hf a w K Q ha hw (fun t a' w' h1 h2 h3 h4 => hK t a' w' h1 h2 (h3.asOwn (At.here _) (by rw [Nat.zero_mul]; rfl) (by omega)) h4)
end
set_option maxRecDepth 100000 in
set_option maxHeartbeats 4000000 in
theorem is73_nil (w : World) : Calls Try.prog 73 #[.pointer none] w (Back (.bool false) w) := by
 refine J_enter (fun _ => False) (vs := [.pointer none]) (k := 11) (l := [(0, .pointer none)]) Try.func73 rfl rfl Try.ntmps73 rfl rfl (Wd.start _) ?_
 refine J_seq ?_
 refine J_reg ?_
 refine JN rfl rfl rfl rfl rfl ?_
 refine JL_nil ?_
 refine JQ_then_n ?_
 refine J_seq ?_
 refine J_reg ?_
 refine JM rfl rfl rfl rfl rfl ?_
 refine JP (rp2 rfl rfl (fun ρ hx hy w => ex_neqPtr rfl hx hy)) ?_
 refine JL_boolF rfl ?_
 refine JM rfl rfl rfl rfl rfl ?_
 refine JF ?_
 refine JF ?_
 refine JF ?_
 refine JF ?_
 refine JF ?_
 refine JP (rp_pickF rfl rfl rfl) ?_
 refine JN rfl rfl rfl rfl rfl ?_
 refine JL_nil ?_
 refine JQ_then_n ?_
 refine J_ret ?_
 refine JR_one rfl (rr_tmp rfl) ?_
 intro w' hw
 exact ⟨rfl, hw.bel⟩
set_option maxRecDepth 100000 in
set_option maxHeartbeats 4000000 in
theorem is73_zero (w : World) (bp : Nat) (hp : w.cell? ⟨bp, 3, none⟩ = some (.map none)) : Calls Try.prog 73 #[.pointer (some ⟨bp, 0, none⟩)] w (Back (.bool false) w) := by
 refine J_enter (fun _ => False) (vs := [.pointer (some ⟨bp, 0, none⟩)]) (k := 11) (l := [(0, .pointer (some ⟨bp, 0, none⟩))]) Try.func73 rfl rfl Try.ntmps73 rfl rfl (Wd.start _) ?_
 refine J_seq ?_
 refine J_reg ?_
 refine JN rfl rfl rfl rfl rfl ?_
 refine JL_nil ?_
 refine JQ_then_n ?_
 refine J_seq ?_
 refine J_reg ?_
 refine JM rfl rfl rfl rfl rfl ?_
 refine JP (rp2 rfl rfl (fun ρ hx hy w => ex_neqPtr rfl hx hy)) ?_
 refine JL_boolT rfl ?_
 refine JM rfl rfl rfl rfl rfl ?_
 refine JPg (rp_move rfl rfl) ?_
 refine JPg (rp_nil rfl rfl) ?_
 refine JPg (rp_fieldC (off' := 3) rfl rfl fa_86_1 rfl) ?_
 refine JVg (rv_old rfl rfl ag_66 (fun h => h) hp) ?_
 refine JPg (rp2 rfl rfl (fun ρ hx hy w => ex_neqMap rfl hx hy)) ?_
 refine JL_boolF rfl ?_
 refine JP (rp_pickT rfl rfl rfl) ?_
 refine JN rfl rfl rfl rfl rfl ?_
 refine JL_nil ?_
 refine JQ_then_n ?_
 refine J_ret ?_
 refine JR_one rfl (rr_tmp rfl) ?_
 intro w' hw
 exact ⟨rfl, hw.bel⟩
set_option maxRecDepth 100000 in
set_option maxHeartbeats 4000000 in
theorem Teams35_nil (p : Value) (w : World) (h73 : ∀ w', Below w.heap.size w w' → Calls Try.prog 73 #[p] w' (Back (.bool false) w')) (i : Int) : Calls Try.prog 35 #[p, .int .i64 i] w (Back (.tuple #[.int .i64 0, .int .i64 0, .int .i64 1]) w) := by
 refine J_enter (fun _ => False) (vs := [p, .int .i64 i]) (k := 40) (l := [(0, p), (1, .int .i64 i)]) Try.func35 rfl rfl Try.ntmps35 rfl rfl (Wd.start _) ?_
 refine J_seq ?_
 refine J_reg ?_
 refine JN rfl rfl rfl rfl rfl ?_
 refine JN rfl rfl rfl rfl rfl ?_
 refine JN rfl rfl rfl rfl rfl ?_
 refine JL_nil ?_
 refine JQ_then_n ?_
 refine J_seq ?_
 refine J_block ?_
 refine J_seq ?_
 refine J_reg ?_
 refine JM rfl rfl rfl rfl rfl ?_
 refine JL_op (wn0 rfl) (ow_callB (ec_fn rfl rfl cf_73) rfl rfl (fun w hw => h73 w hw.bel)) (fun _ _ => ?_)
 refine JP (rp1 rfl (fun ρ hx w => ex_not rfl hx)) ?_
 refine JN rfl rfl rfl rfl rfl ?_
 refine JL_nil ?_
 refine JQ_then_n ?_
 refine J_yes rfl rfl ?_
 refine J_seq ?_
 refine J_keep (l' := []) trivial ?_
 refine J_reg ?_
 refine JN rfl rfl rfl rfl rfl ?_
 refine JN rfl rfl rfl rfl rfl ?_
 refine JN rfl rfl rfl rfl rfl ?_
 refine JL_nil ?_
 refine JQ_then_n ?_
 refine J_ret ?_
 refine JQ_block_r ?_
 refine JQ_then_r ?_
 refine JR_three rfl (rr_tmp rfl) (rr_tmp rfl) (rr_tmp rfl) ?_
 intro w' hw
 exact ⟨rfl, hw.bel⟩
set_option maxRecDepth 100000 in
set_option maxHeartbeats 4000000 in
theorem report36_nil (p : Value) (w : World) (h73 : ∀ w', Below w.heap.size w w' → Calls Try.prog 73 #[p] w' (Back (.bool false) w')) (i r : Int) : Calls Try.prog 36 #[p, .int .i64 i, .int .i64 r] w (Back (.int .i64 1) w) := by
 refine J_enter (fun _ => False) (vs := [p, .int .i64 i, .int .i64 r]) (k := 41) (l := [(0, p), (1, .int .i64 i), (2, .int .i64 r)]) Try.func36 rfl rfl Try.ntmps36 rfl rfl (Wd.start _) ?_
 refine J_seq ?_
 refine J_reg ?_
 refine JN rfl rfl rfl rfl rfl ?_
 refine JL_nil ?_
 refine JQ_then_n ?_
 refine J_seq ?_
 refine J_block ?_
 refine J_seq ?_
 refine J_reg ?_
 refine JM rfl rfl rfl rfl rfl ?_
 refine JL_op (wn0 rfl) (ow_callB (ec_fn rfl rfl cf_73) rfl rfl (fun w hw => h73 w hw.bel)) (fun _ _ => ?_)
 refine JP (rp1 rfl (fun ρ hx w => ex_not rfl hx)) ?_
 refine JN rfl rfl rfl rfl rfl ?_
 refine JL_nil ?_
 refine JQ_then_n ?_
 refine J_yes rfl rfl ?_
 refine J_seq ?_
 refine J_keep (l' := []) trivial ?_
 refine J_reg ?_
 refine JN rfl rfl rfl rfl rfl ?_
 refine JL_nil ?_
 refine JQ_then_n ?_
 refine J_ret ?_
 refine JQ_block_r ?_
 refine JQ_then_r ?_
 refine JR_one rfl (rr_tmp rfl) ?_
 intro w' hw
 exact ⟨rfl, hw.bel⟩
set_option maxRecDepth 100000 in
set_option maxHeartbeats 4000000 in
theorem places38_nil (p : Value) (w : World) (h73 : ∀ w', Below w.heap.size w w' → Calls Try.prog 73 #[p] w' (Back (.bool false) w')) : Calls Try.prog 38 #[p] w (Back (.slice none 0 0) w) := by
 refine J_enter (fun _ => False) (vs := [p]) (k := 29) (l := [(0, p)]) Try.func38 rfl rfl Try.ntmps38 rfl rfl (Wd.start _) ?_
 refine J_seq ?_
 refine J_reg ?_
 refine JN rfl rfl rfl rfl rfl ?_
 refine JL_nil ?_
 refine JQ_then_n ?_
 refine J_seq ?_
 refine J_seq ?_
 refine J_reg ?_
 refine JM rfl rfl rfl rfl rfl ?_
 refine JL_op (wn0 rfl) (ow_callB (ec_fn rfl rfl cf_73) rfl rfl (fun w hw => h73 w hw.bel)) (fun _ _ => ?_)
 refine JP (rp1 rfl (fun ρ hx w => ex_not rfl hx)) ?_
 refine JL_nil ?_
 refine JQ_then_n ?_
 refine J_yes rfl rfl ?_
 refine J_seq ?_
 refine J_keep (l' := []) trivial ?_
 refine J_reg ?_
 refine JN rfl rfl rfl rfl rfl ?_
 refine JL_nil ?_
 refine JQ_then_n ?_
 refine J_ret ?_
 refine JQ_then_r ?_
 refine JR_one rfl (rr_tmp rfl) ?_
 intro w' hw
 exact ⟨rfl, hw.bel⟩
set_option maxRecDepth 100000 in
set_option maxHeartbeats 4000000 in
theorem Ready40_nil (p : Value) (w : World) (h73 : ∀ w', Below w.heap.size w w' → Calls Try.prog 73 #[p] w' (Back (.bool false) w')) : Calls Try.prog 40 #[p] w (Back (.slice none 0 0) w) := by
 refine J_enter (fun _ => False) (vs := [p]) (k := 58) (l := [(0, p)]) Try.func40 rfl rfl Try.ntmps40 rfl rfl (Wd.start _) ?_
 refine J_seq ?_
 refine J_reg ?_
 refine JN rfl rfl rfl rfl rfl ?_
 refine JL_nil ?_
 refine JQ_then_n ?_
 refine J_seq ?_
 refine J_seq ?_
 refine J_reg ?_
 refine JM rfl rfl rfl rfl rfl ?_
 refine JL_op (wn0 rfl) (ow_callB (ec_fn rfl rfl cf_73) rfl rfl (fun w hw => h73 w hw.bel)) (fun _ _ => ?_)
 refine JP (rp1 rfl (fun ρ hx w => ex_not rfl hx)) ?_
 refine JL_nil ?_
 refine JQ_then_n ?_
 refine J_yes rfl rfl ?_
 refine J_seq ?_
 refine J_keep (l' := []) trivial ?_
 refine J_reg ?_
 refine JN rfl rfl rfl rfl rfl ?_
 refine JL_nil ?_
 refine JQ_then_n ?_
 refine J_ret ?_
 refine JQ_then_r ?_
 refine JR_one rfl (rr_tmp rfl) ?_
 intro w' hw
 exact ⟨rfl, hw.bel⟩
/-- A list of numbers, spoiled up to its k-th. -/
def spK (L : List Int) : Nat → List Int
  | 0 => L
  | k + 1 => (spK L k).set k (-9)
theorem spK_len (L : List Int) : ∀ k, (spK L k).length = L.length
  | 0 => rfl
  | k + 1 => by unfold spK; rw [List.length_set, spK_len L k]
set_option maxRecDepth 100000 in
set_option maxHeartbeats 4000000 in
theorem spoil44 (L : List Int) (w : World) (A : Option Addr) (c : Nat) (B0 : Bs) (h0 : Wd B0 [ownB 3 1 A L.length c (L.flatMap eI)] w) (hl : L.length ≤ 1000) : Calls Try.prog 44 #[.slice A L.length c] w (RetL [ownB 3 1 A L.length c (L.flatMap eI)] (fun _ : Unit => True) (fun _ => .tuple #[]) (fun _ => [ownB 3 1 A L.length c ((spK L L.length).flatMap eI)]) w) := by
 refine J_enter (allI [ownB 3 1 A L.length c (L.flatMap eI)]).foot (vs := [.slice A L.length c]) (k := 11) (l := [(0, .slice A L.length c)]) Try.func44 rfl rfl Try.ntmps44 rfl rfl (h0.startL) ?_
 refine J_seq ?_
 refine J_reg ?_
 refine JN rfl rfl rfl rfl rfl ?_
 refine JL_nil ?_
 refine JQ_then_n ?_
 refine J_block ?_
 refine J_loop (T := Nat) (fun q => q ≤ L.length) (fun q => [(0, .slice A L.length c), (2, .int .i64 (q : Nat))]) (fun q => [ownB 3 1 A L.length c ((spK L q).flatMap eI)]) (fun q => L.length - q) 0 (Nat.zero_le _) ⟨rfl, rfl, trivial⟩ (by repeat constructor) ?_
 rintro k hk
 refine J_seq ?_
 refine J_seq ?_
 refine J_reg ?_
 refine JM rfl rfl rfl rfl rfl ?_
 refine JM rfl rfl rfl rfl rfl ?_
 refine JP (rp1 rfl (fun ρ hx w => ex_len (A := _) (c := _) rfl Try.underlying26 hx)) ?_
 refine JP (rp2 rfl rfl (fun ρ hx hy w => ex_lssD rfl hx hy)) ?_
 refine JL_dec (fun h6 => ?_) (fun h6 => ?_)
 ·refine JL_nil ?_
  refine JQ_then_n ?_
  refine J_yes rfl rfl ?_
  refine J_skip ?_
  refine JQ_then_n ?_
  refine J_seq ?_
  refine J_block ?_
  have hlt : k < L.length := by omega
  have hlen := spK_len L k
  refine J_fact (fun hf => ?_)
  obtain ⟨b, rfl⟩ := own_some (A := A) hf (by repeat constructor) (by omega)
  refine J_keep (l' := [(0, _), (2, _)]) ⟨rfl, rfl, trivial⟩ ?_
  refine J_reg ?_
  refine JM rfl rfl rfl rfl rfl ?_
  refine JM rfl rfl rfl rfl rfl ?_
  refine JP (rp2 rfl rfl (fun ρ hx hy w => ex_indexI (k := k) rfl hx hy rfl Try.underlying26 sz_3 (by omega))) ?_
  refine JL_op (wn0 rfl) (ow_storeE (L := spK L k) (j := k) (cs := [_]) EI (-9) rfl rfl rfl rfl rfl sz_3 rfl (by repeat constructor) (by omega) (Nat.le_of_ble_eq_true rfl) rfl) (fun _ _ => ?_)
  refine JL_nil ?_
  refine JQ_block_n ?_
  refine JQ_then_n ?_
  refine J_reg ?_
  refine JM rfl rfl rfl rfl rfl ?_
  refine JP (rp2 rfl rfl (fun ρ hx hy w => ex_add rfl hx hy (by omega))) ?_
  refine JN rfl rfl rfl rfl rfl ?_
  refine JL_nil ?_
  exact JQ_round (k + 1) (by omega) (by omega) ⟨rfl, (congrArg some (by go_num)), trivial⟩ (by repeat constructor)
 ·refine JL_nil ?_
  refine JQ_then_n ?_
  refine J_no rfl rfl ?_
  refine J_exit ?_
  refine JQ_then_x ?_
  refine JQ_then_x ?_
  refine JQ_block_y rfl ?_
  refine JR_end rfl ?_
  intro w' hw
  obtain rfl : k = L.length := by omega
  exact ⟨(), trivial, rfl, hw.pick (by repeat constructor)⟩
end Go.Proofs.Ytlfbbofcnonhdaa
