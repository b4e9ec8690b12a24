import Derived.Test.YtlfbbofcnonhdaaSd
import Derived.Test.YtlfbbofcnonhdaaRf
/- Contracts: Check, lowest, Table. -/
namespace Go.Proofs.Ytlfbbofcnonhdaa
open Go Go.RowKit Go.Proofs

theorem Check29 (T : Int) (l : List Re) (v : Value) (w : World) (hrow : Arr 6 eR w v l) (hw : ∀ x ∈ l, W6 x) : Calls Try.prog 29 #[.int .i64 T, v] w (Back (.int .i64 (chkE T l)) w) := by
 obtain ⟨A, cap, rfl⟩ := hrow.form
 unfold chkE
 by_cases h1 : 2 ≤ T ∧ T ≤ 16
 ·rw [if_neg (by omega)]
  by_cases h2 : 300 < l.length
  ·rw [if_pos h2]; exact Check_long T A _ cap w h1 h2
  ·rw [if_neg h2]; exact Check_in T l _ w h1 (by omega) hrow hw
 ·rw [if_pos h1]; exact Check_out T A _ cap w h1
theorem chk_ok {T : Int} {l : List Re} (h : chkE T l = 0) : (2 ≤ T ∧ T ≤ 16) ∧ l.length ≤ 300 ∧ ∀ x ∈ l, vldB T x = true := by
 unfold chkE at h
 split at h
 ·omega
 ·split at h
  ·omega
  ·split at h
   ·exact ⟨by omega, by omega, okR_all (by assumption)⟩
   ·omega
section
open Go
variable {P : Program} {n : Nat} {B : Bs} {o : Oper} {l : Sl} {H : List It}
theorem rv_ownaggE {α : Type} {k : Nat} {enc : α → List Value} (E : Enc k enc) {t : TypeId} {x : Operand} {ty m c b j : Nat} {cs : List Value} {L : List α} (ho : o.op = .load t x) (hx : evl l x = some (.pointer (some ⟨b, 0 + j * k + 0, none⟩))) (hagg : ∀ w, (isAgg t).run P w = .ok true w) (hsz : ∀ w, (sizeOf t).run P w = .ok k w) (hm : ownB ty k (some ⟨b, 0, none⟩) m c (L.flatMap enc) ∈ H) (hj : j < L.length) (hv : enc (L[j]'hj) = cs) : RV P n B l H o (.agg cs.toArray) := by
 subst hv
 refine rv_ownagg ho hx hagg (by rw [E.len]; exact hsz) hm (fun i v hi => ?_)
 have h := (List.getElem?_eq_some_iff.1 hi).1
 rw [E.len] at h
 rw [Nat.add_zero, Nat.zero_add, flat_get E hj i h]; exact hi
end
/-- A function's end: a new slice, and a number. -/
def RetSE {α : Type} (ty k : Nat) (enc : α → List Value) (L : List α) (E : Int) (w : World) (e : Ending) (w' : World) : Prop := ∃ A c, e = .returned (.tuple #[.slice A L.length c, .int .i64 E]) ∧ Wd (bs w) [ownB ty k A L.length c (L.flatMap enc)] w'
theorem Grp.flat_perm {key : Int → Int} {g : List Int} {D : List (List Int)} (h : Grp key g D) (hg : g.Pairwise (· < ·)) : D.flatten.Perm g := by
 have n1 : D.flatten.Nodup := by
  rw [List.Nodup, List.pairwise_flatten]
  refine ⟨fun d hd => (h.asc d hd).imp (fun h => by omega), h.lt.imp (fun h x hx y hy => ?_)⟩
  have := h x hx y hy
  intro e; subst e; omega
 have n2 : g.Nodup := hg.imp (fun h => by omega)
 rw [List.perm_iff_count]
 intro x
 rw [n1.count, n2.count]
 have : x ∈ D.flatten ↔ x ∈ g := by rw [List.mem_flatten, h.mem]
 simp only [this]
theorem flat_flat {f : List Int → List (List Int)} : ∀ {D : List (List Int)}, (∀ d ∈ D, (f d).flatten.Perm d) → (D.flatMap f).flatten.Perm D.flatten
 | [], _ => List.Perm.refl _
 | d :: D, h => by
  rw [List.flatMap_cons, List.flatten_append, List.flatten_cons]
  exact (h d (by simp)).append (flat_flat fun e he => h e (by simp [he]))
theorem apP_perm (l : List Re) : ∀ (f : Nat) (g : List Int), g.Pairwise (· < ·) → (apP l f g).flatten.Perm g
 | 0, g, _ => by simp [apP]
 | f + 1, g, hg => by
  unfold apP
  split
  ·simp
  ·split
   ·exact (flat_flat (fun d hd => apP_perm l f d (grps_part hg hd).2.1)).trans ((grps_ok _ hg).flat_perm hg)
   ·exact (grps_ok _ hg).flat_perm hg
theorem ordP_perm (l : List Re) (T : Nat) : (ordP l T).flatten.Perm (allT T) :=
 (flat_flat (fun _ hd => apP_perm l T _ (grps_part (allT_inc T) hd).2.1)).trans ((grps_ok _ (allT_inc T)).flat_perm (allT_inc T))
/-- Rows by places. -/
def plc (row : Int → Rw) (n : Nat) (t : Int) : Rw := { row t with place := (n : Int) + 1 }
def tblA (row : Int → Rw) (out : List Rw) (d : List Int) : Nat → List Rw
 | 0 => out
 | j + 1 => tblA row out d j ++ [plc row out.length (d.getD j 0)]
theorem tblA_eq (row : Int → Rw) (out : List Rw) (d : List Int) : ∀ j, j ≤ d.length → tblA row out d j = out ++ (d.take j).map (plc row out.length)
 | 0, _ => by simp [tblA]
 | j + 1, h => by
  show tblA row out d j ++ _ = _
  rw [tblA_eq row out d j (by omega), List.take_succ_eq_append_getElem h, List.map_append, List.append_assoc, List.getD_eq_getElem?_getD, List.getElem?_eq_getElem h]; rfl
def tblG (row : Int → Rw) (D : List (List Int)) : List Rw := D.foldl (fun out d => out ++ d.map (plc row out.length)) []
theorem tblA_snoc (row : Int → Rw) (out : List Rw) (d : List Int) (j : Nat) (h : j < d.length) : tblA row out d (j + 1) = tblA row out d j ++ [plc row out.length (d[j]'h)] := by
 show tblA row out d j ++ _ = _
 rw [List.getD_eq_getElem?_getD, List.getElem?_eq_getElem h]; rfl
theorem tblA_len (row : Int → Rw) (out : List Rw) (d : List Int) (j : Nat) (h : j ≤ d.length) : (tblA row out d j).length = out.length + j := by
 rw [tblA_eq row out d j h, List.length_append, List.length_map, List.length_take]; omega
theorem tblG_snoc (row : Int → Rw) (D : List (List Int)) (k : Nat) (h : k < D.length) : tblG row (D.take (k + 1)) = tblA row (tblG row (D.take k)) (D[k]'h) (D[k]'h).length := by
 rw [tblA_eq _ _ _ _ (Nat.le_refl _), List.take_succ_eq_append_getElem h, List.take_length]; unfold tblG; rw [List.foldl_append]; rfl
theorem tblG_len (row : Int → Rw) (D : List (List Int)) : (tblG row D).length = D.flatten.length := by
 have : ∀ (D : List (List Int)) (o : List Rw), (D.foldl (fun out d => out ++ d.map (plc row out.length)) o).length = o.length + D.flatten.length := by
  intro D
  induction D with
  | nil => intro o; simp
  | cons d D ih => intro o; rw [List.foldl_cons, ih]; simp; omega
 rw [tblG, this]; simp
theorem flatk_len {D : List (List Int)} (k : Nat) (h : k < D.length) : (D.take k).flatten.length + (D[k]'h).length ≤ D.flatten.length := by
 have e : D.flatten = (D.take (k + 1)).flatten ++ (D.drop (k + 1)).flatten := by rw [← List.flatten_append, List.take_append_drop]
 rw [e, List.take_succ_eq_append_getElem h]; simp only [List.flatten_append, List.length_append, List.flatten_cons, List.flatten_nil, List.append_nil]; omega
/-- The table. -/
def tblP (T : Int) (l : List Re) : List Rw := if chkE T l = 0 then tblG (rowN l) (ordP l T.toNat) else []

set_option maxRecDepth 100000 in
set_option maxHeartbeats 4000000 in
theorem lowest68 (a b : Int) (w : World) (ha : 0 ≤ a ∧ a ≤ 1000000000000) (hb : 0 < b ∧ b ≤ 1000000000000) : Calls Try.prog 68 #[.int .i64 a, .int .i64 b] w (Back (Pv (a / (Int.gcd a b : Nat)) (b / (Int.gcd a b : Nat))) w) := by
 refine J_enter (fun _ => False) (vs := [.int .i64 a, .int .i64 b]) (k := 20) (l := [(0, .int .i64 a), (1, .int .i64 b)]) Try.func68 rfl rfl Try.ntmps68 rfl rfl (Wd.start _) ?_
 refine J_seq ?_
 refine J_reg ?_
 refine JL_op (wn0 rfl) (ow_alloc rfl rfl zv_42 rfl rfl) (fun b4 hb4 => ?_)
 refine JL_nil ?_
 refine JQ_then_n ?_
 refine J_seq ?_
 refine J_reg ?_
 refine JM rfl rfl rfl rfl rfl ?_
 refine JM rfl rfl rfl rfl rfl ?_
 refine JN rfl rfl rfl rfl rfl ?_
 refine JN rfl rfl rfl rfl rfl ?_
 refine JL_nil ?_
 refine JQ_then_n ?_
 refine J_seq ?_
 refine J_block ?_
 refine J_loop (T := Int × Int) (fun q => 0 ≤ q.1 ∧ 0 ≤ q.2 ∧ q.1 ≤ 1000000000000 ∧ q.2 ≤ 1000000000000 ∧ Int.gcd q.1 q.2 = Int.gcd a b) (fun q => [(0, .int .i64 a), (1, .int .i64 b), (4, .pointer (some ⟨b4, 0, none⟩)), (5, .int .i64 q.1), (6, .int .i64 q.2)]) (fun q => [cellB b4 [.int .i64 0, .int .i64 0] 42]) (fun q => q.2.toNat) (a, b) ⟨ha.1, by dsimp only; omega, ha.2, hb.2, rfl⟩ ⟨rfl, rfl, rfl, rfl, rfl, trivial⟩ (by repeat constructor) ?_
 rintro ⟨x, y⟩ ⟨hx, hy, hx2, hy2, hg⟩
 dsimp only at hx hy hx2 hy2 hg ⊢
 refine J_seq ?_
 refine J_seq ?_
 refine J_reg ?_
 refine JM rfl rfl rfl rfl rfl ?_
 refine JP (rp2 rfl rfl (fun ρ hx hy w => ex_neqD rfl hx hy)) ?_
 refine JL_dec (fun h10 => ?_) (fun h10 => ?_)
 ·refine JL_nil ?_
  refine JQ_then_n ?_
  refine J_yes rfl rfl ?_
  refine J_skip ?_
  refine JQ_then_n ?_
  refine J_block ?_
  refine J_draw [] (by kernel_rfl) ?_
  refine JAP (i := 0) rfl (rp_move rfl rfl) ?_
  refine JAP (i := 1) rfl (rp_move rfl rfl) ?_
  refine JAP (i := 2) rfl (rp_move rfl rfl) ?_
  refine JAP (i := 3) rfl (rp2 rfl rfl (fun ρ hx hy w => ex_rem rfl hx hy (by omega) (by omega))) ?_
  refine JAP (i := 4) rfl (rp_assign rfl rfl) ?_
  refine JAP (i := 5) rfl (rp_assign rfl rfl) ?_
  refine JA_done (by kernel_rfl) ?_
  refine JQ_block_n ?_
  have h1 := Int.emod_nonneg x (show y ≠ 0 by omega)
  have h2 := Int.emod_lt_of_pos x (show 0 < y by omega)
  exact JQ_round (y, x % y) ⟨hy, h1, hy2, by dsimp only; omega, by dsimp only; rw [← hg, gcd_step x y hx (by omega)]⟩ (by dsimp only; omega) ⟨rfl, rfl, rfl, rfl, rfl, trivial⟩ (by repeat constructor)
 ·refine JL_nil ?_
  refine JQ_then_n ?_
  refine J_no rfl rfl ?_
  refine J_exit ?_
  refine JQ_then_x ?_
  refine JQ_then_x ?_
  refine JQ_block_y rfl ?_
  refine JQ_then_n ?_
  refine J_seq ?_
  have hy0 : y = 0 := by omega
  subst hy0
  have hg2 : ((Int.gcd a b : Nat) : Int) = x := by rw [← hg, Int.gcd_zero_right]; omega
  have hxp : 0 < x := by
   rcases Int.lt_or_eq_of_le hx with h | h
   ·exact h
   ·exfalso
    rw [← h] at hg2
    have := Int.gcd_eq_zero_iff.1 (show Int.gcd a b = 0 by omega)
    omega
  refine J_draw [] (by kernel_rfl) ?_
  refine JAP (i := 0) rfl (rp_move rfl rfl) ?_
  refine JAP (i := 1) rfl (rp_move rfl rfl) ?_
  refine JAP (i := 2) rfl (rp2 rfl rfl (fun ρ hx hy w => ex_quo rfl hx hy (by omega) (by omega))) ?_
  refine JAP (i := 3) rfl (rp_move rfl rfl) ?_
  refine JAP (i := 4) rfl (rp_move rfl rfl) ?_
  refine JAP (i := 5) rfl (rp2 rfl rfl (fun ρ hx hy w => ex_quo rfl hx hy (by omega) (by omega))) ?_
  refine JAP (i := 6) rfl (rp_buildC (fun us => [us.getD 0 undef, us.getD 1 undef]) rfl rfl (fun w => by kernel_rfl)) ?_
  refine JA_one (i := 7) (by kernel_rfl) rfl (wn0 rfl) (ow_store (cs := [_, _]) (vs' := [_, _]) rfl rfl rfl rfl rfl sz_42 rfl (by repeat constructor) (by rfl) (by rfl)) ⟨by kernel_rfl, .inl (by kernel_rfl)⟩ (fun _ _ => ?_)
  refine JA_done (by kernel_rfl) ?_
  refine JQ_then_n ?_
  refine J_ret ?_
  refine JR_one rfl (rr_agg (cs := [_, _]) rfl ag_42 sz_42 (by repeat constructor) (by rfl)) ?_
  intro w' hw
  exact ⟨by rw [hg2]; rfl, hw.bel⟩
set_option maxRecDepth 100000 in
set_option maxHeartbeats 4000000 in
theorem Table25 (T : Int) (l : List Re) (v : Value) (w : World) (hrow : Arr 6 eR w v l) (hw6 : ∀ x ∈ l, W6 x) : Calls Try.prog 25 #[.int .i64 T, v] w (RetSE 58 8 eW (tblP T l) (chkE T l) w) := by
 obtain ⟨A, cap, rfl⟩ := hrow.form
 refine J_enter (fun _ => False) (vs := [.int .i64 T, .slice A l.length cap]) (k := 54) (l := [(0, .int .i64 T), (1, .slice A l.length cap)]) Try.func25 rfl rfl Try.ntmps25 rfl rfl (Wd.start _) ?_
 refine J_seq ?_
 refine J_reg ?_
 refine JN rfl rfl rfl rfl rfl ?_
 refine JN rfl rfl rfl rfl rfl ?_
 refine JL_nil ?_
 refine JQ_then_n ?_
 refine J_seq ?_
 refine J_seq ?_
 refine J_reg ?_
 refine JM rfl rfl rfl rfl rfl ?_
 refine JM rfl rfl rfl rfl rfl ?_
 refine JL_op (wn0 rfl) (ow_callB (ec_fn rfl rfl cf_29) rfl rfl (fun w hw => Check29 T l _ w (hrow.up ER hw.bel) hw6)) (fun _ _ => ?_)
 refine JN rfl rfl rfl rfl rfl ?_
 refine JL_nil ?_
 refine JQ_then_n ?_
 refine J_seq ?_
 refine J_keep (l' := [(0, _), (1, _), (6, _)]) ⟨rfl, rfl, rfl, trivial⟩ ?_
 refine J_reg ?_
 refine JM rfl rfl rfl rfl rfl ?_
 refine JP (rp2 rfl rfl (fun ρ hx hy w => ex_neq29 rfl hx hy)) ?_
 refine JL_dec (fun h19 => ?_) (fun h19 => ?_)
 ·refine JL_nil ?_
  refine JQ_then_n ?_
  refine J_yes rfl rfl ?_
  refine J_seq ?_
  refine J_keep (l' := [(6, _)]) ⟨rfl, trivial⟩ ?_
  refine J_reg ?_
  refine JM rfl rfl rfl rfl rfl ?_
  refine JN rfl rfl rfl rfl rfl ?_
  refine JN rfl rfl rfl rfl rfl ?_
  refine JL_nil ?_
  refine JQ_then_n ?_
  refine J_ret ?_
  refine JQ_then_r ?_
  refine JR_two rfl (rr_tmp rfl) (rr_tmp rfl) ?_
  intro w' hw
  have e : tblP T l = [] := by unfold tblP; rw [if_neg (by omega)]
  rw [e]
  exact ⟨none, 0, rfl, (hw.own0 58 8).pick (by repeat constructor)⟩
 ·refine JL_nil ?_
  refine JQ_then_n ?_
  refine J_no rfl rfl ?_
  refine J_skip ?_
  refine JQ_then_n ?_
  refine J_seq ?_
  have hc0 : chkE T l = 0 := by omega
  obtain ⟨hT, hl, hvb⟩ := chk_ok hc0
  have hv : ∀ x ∈ l, ReB x := fun x hx => (vld_b (hvb x hx)).1
  obtain ⟨T, rfl⟩ := Int.eq_ofNat_of_zero_le (show 0 ≤ T by omega)
  refine J_reg ?_
  refine JM rfl rfl rfl rfl rfl ?_
  refine JM rfl rfl rfl rfl rfl ?_
  refine JL_op (wn0 rfl) (ow_callR (ec_fn rfl rfl cf_63) rfl rfl (fun _ => rfl) (fun w hw => stand63 T l _ w ⟨by omega, by omega⟩ hl (hrow.up ER hw.bel) hvb)) (fun t23 ht23 => ?_)
  refine JN rfl rfl rfl rfl rfl ?_
  refine JL_nil ?_
  refine JQ_then_n ?_
  refine J_seq ?_
  obtain ⟨sb, rb, mb, n23, d23⟩ := t23
  dsimp only [StdG, List.cons_append, List.nil_append] at ht23 ⊢
  refine J_keep (l' := [(7, _)]) ⟨rfl, trivial⟩ ?_
  refine J_reg ?_
  refine JN rfl rfl rfl rfl rfl ?_
  refine JL_nil ?_
  refine JQ_then_n ?_
  refine J_seq ?_
  refine J_seq ?_
  refine J_own0 58 8 ?_
  refine J_reg ?_
  refine JM rfl rfl rfl rfl rfl ?_
  refine JL_op (wn0 rfl) (ow_callD (ec_fn rfl rfl cf_64) rfl rfl (fun _ => noOB) (fun w hw => order64 T l w sb rb mb (StF.of (t := (sb, rb, mb, n23, d23)) hw (by repeat constructor) (by repeat constructor) (by repeat constructor)) ⟨by omega, by omega⟩ hl hv hvb)) (fun t25 ht25 => ?_)
  obtain ⟨A25, c25, D25⟩ := t25
  obtain ⟨hD25, hN25⟩ := ht25
  dsimp only at hD25 hN25 ⊢
  refine JP (rp1 rfl (fun ρ hx w => ex_len (A := _) (c := _) rfl Try.underlying113 hx)) ?_
  refine JM rfl rfl rfl rfl rfl ?_
  refine JL_nil ?_
  refine JQ_then_n ?_
  refine J_block ?_
  refine J_loop (T := Nat × Option Addr × Nat) (fun q => q.1 ≤ D25.length) (fun q => [(7, .pointer (some ⟨sb, 0, none⟩)), (8, .slice q.2.1 (tblG (rowN l) ((ordP l T).take q.1)).length q.2.2), (25, .slice A25 D25.length c25), (26, .int .i64 (D25.length : Nat)), (27, .int .i64 (q.1 : Nat))]) (fun q => [ownB 58 8 q.2.1 (tblG (rowN l) ((ordP l T).take q.1)).length q.2.2 ((tblG (rowN l) ((ordP l T).take q.1)).flatMap eW), cellB sb [.slice (some ⟨rb, 0, none⟩) T T, .map (some mb)] 117, ownB 58 8 (some ⟨rb, 0, none⟩) T T ((rowsS T (rowN l)).flatMap eW), ownB 26 1 A25 D25.length c25 (D25.flatMap eD), slsB 1 eI D25]) (fun q => D25.length - q.1) (0, none, 0) (Nat.zero_le _) ⟨rfl, rfl, rfl, rfl, rfl, trivial⟩ (by repeat constructor) ?_
  rintro ⟨k, A8, c8⟩ hk
  dsimp only at hk ⊢
  refine J_seq ?_
  refine J_reg ?_
  refine JP (rp2 rfl rfl (fun ρ hx hy w => ex_lssD rfl hx hy)) ?_
  refine JL_dec (fun h28 => ?_) (fun h28 => ?_)
  ·refine JL_nil ?_
   refine JQ_then_n ?_
   refine J_seq ?_
   refine J_yes rfl rfl ?_
   refine J_skip ?_
   refine JQ_then_n ?_
   refine J_seq ?_
   refine J_block ?_
   refine J_seq ?_
   have hlt : k < D25.length := by omega
   refine J_fact (fun hf => ?_)
   obtain ⟨b25, rfl⟩ := own_some (A := A25) hf (by repeat constructor) (by omega)
   have hcp : D25.length ≤ maxLen := Nat.le_trans (own_cap (A := some ⟨b25, 0, none⟩) (m := D25.length) hf (by repeat constructor)).1 (own_cap (A := some ⟨b25, 0, none⟩) (m := D25.length) hf (by repeat constructor)).2
   unfold maxLen at hcp
   obtain ⟨p, hp⟩ : ∃ p, D25[k]'hlt = p := ⟨_, rfl⟩
   have hpm : p ∈ D25 := by rw [← hp]; exact List.getElem_mem _
   obtain ⟨hpn, hpc, -, hpA⟩ := sls_len (D := D25) (p := p) hf (by repeat constructor) hpm
   have hkb : k < (ordP l T).length := by rw [← hD25, List.length_map]; exact hlt
   have hgk : (ordP l T)[k]'hkb = p.l := by
    have : (D25.map Dv.l)[k]'(by rw [List.length_map]; exact hlt) = p.l := by rw [List.getElem_map, hp]
    simpa only [hD25] using this
   have hsn := tblG_snoc (rowN l) (ordP l T) k hkb
   have hfk := flatk_len k hkb
   have hpf := (ordP_perm l T).length_eq
   have htl := tblG_len (rowN l) ((ordP l T).take k)
   have hpin : ∀ x ∈ p.l, 0 ≤ x ∧ x < T := fun x hx => allT_in ((ordP_perm l T).mem_iff.1 (List.mem_flatten.2 ⟨_, by rw [← hgk]; exact List.getElem_mem _, hx⟩))
   rw [hgk] at hsn hfk
   rw [allT_len] at hpf
   obtain ⟨pA, pn, pc, pl⟩ := p
   dsimp only at hpn hpc hgk hsn hfk hpin hpA
   subst hpn
   refine J_reg ?_
   refine JP (rp2 rfl rfl (fun ρ hx hy w => ex_indexE rfl hx hy Try.underlying113 sz_26 (by omega))) ?_
   refine JV (rv_ownE (L := D25) ED rfl rfl ag_26 (by repeat constructor) (by omega) (by omega) (by rw [hp]; rfl)) ?_
   refine JN rfl rfl rfl rfl rfl ?_
   refine JL_nil ?_
   refine JQ_then_n ?_
   refine J_seq ?_
   refine J_reg ?_
   refine JM rfl rfl rfl rfl rfl ?_
   refine JP (rp1 rfl (fun ρ hx w => ex_len (A := _) (c := _) rfl Try.underlying45 hx)) ?_
   refine JP (rp2 rfl rfl (fun ρ hx hy w => ex_add rfl hx hy (by omega))) ?_
   refine JN rfl rfl rfl rfl rfl ?_
   refine JL_nil ?_
   refine JQ_then_n ?_
   refine J_seq ?_
   refine J_keep (l' := [(7, _), (8, _), (10, _), (11, _), (25, _), (26, _), (27, _)]) ⟨rfl, rfl, rfl, rfl, rfl, rfl, rfl, trivial⟩ ?_
   refine J_reg ?_
   refine JM rfl rfl rfl rfl rfl ?_
   refine JP (rp1 rfl (fun ρ hx w => ex_len (A := _) (c := _) rfl Try.underlying26 hx)) ?_
   refine JM rfl rfl rfl rfl rfl ?_
   refine JL_nil ?_
   refine JQ_then_n ?_
   refine J_block ?_
   refine J_loop (T := Nat × Option Addr × Nat) (fun q => q.1 ≤ pl.length) (fun q => [(7, .pointer (some ⟨sb, 0, none⟩)), (8, .slice q.2.1 (tblA (rowN l) (tblG (rowN l) ((ordP l T).take k)) pl q.1).length q.2.2), (25, .slice (some ⟨b25, 0, none⟩) D25.length c25), (26, .int .i64 (D25.length : Nat)), (27, .int .i64 (k : Nat)), (11, .int .i64 (((tblG (rowN l) ((ordP l T).take k)).length : Nat) + 1)), (34, .slice pA pl.length pc), (35, .int .i64 (pl.length : Nat)), (36, .int .i64 (q.1 : Nat))]) (fun q => [ownB 58 8 q.2.1 (tblA (rowN l) (tblG (rowN l) ((ordP l T).take k)) pl q.1).length q.2.2 ((tblA (rowN l) (tblG (rowN l) ((ordP l T).take k)) pl q.1).flatMap eW), cellB sb [.slice (some ⟨rb, 0, none⟩) T T, .map (some mb)] 117, ownB 58 8 (some ⟨rb, 0, none⟩) T T ((rowsS T (rowN l)).flatMap eW), ownB 26 1 (some ⟨b25, 0, none⟩) D25.length c25 (D25.flatMap eD), slsB 1 eI D25]) (fun q => pl.length - q.1) (0, A8, c8) (Nat.zero_le _) ⟨rfl, rfl, rfl, rfl, rfl, rfl, rfl, rfl, rfl, trivial⟩ (by repeat constructor) ?_
   rintro ⟨j, A8, c8⟩ hj
   dsimp only at hj ⊢
   refine J_seq ?_
   refine J_reg ?_
   refine JP (rp2 rfl rfl (fun ρ hx hy w => ex_lssD rfl hx hy)) ?_
   refine JL_dec (fun h37 => ?_) (fun h37 => ?_)
   ·refine JL_nil ?_
    refine JQ_then_n ?_
    refine J_seq ?_
    refine J_yes rfl rfl ?_
    refine J_skip ?_
    refine JQ_then_n ?_
    refine J_seq ?_
    refine J_block ?_
    refine J_seq ?_
    have hlj : j < pl.length := by omega
    obtain ⟨pb, po, rfl⟩ := hpA (by intro e; subst e; simp at hlj)
    have hal : (tblA (rowN l) (tblG (rowN l) ((ordP l T).take k)) pl j).length ≤ T := by rw [tblA_len _ _ _ _ hj]; omega
    obtain ⟨t, ht⟩ := Int.eq_ofNat_of_zero_le (hpin _ (List.getElem_mem hlj)).1
    have htT := (hpin _ (List.getElem_mem hlj)).2
    rw [ht] at htT
    have hsj := tblA_snoc (rowN l) (tblG (rowN l) ((ordP l T).take k)) pl j hlj
    rw [ht] at hsj
    refine J_reg ?_
    refine JP (rp2 rfl rfl (fun ρ hx hy w => ex_indexE rfl hx hy Try.underlying26 sz_3 (by omega))) ?_
    refine JV (rv_sls (D := D25) ⟨some ⟨pb, po, none⟩, pl.length, pc, pl⟩ rfl rfl ag_3 (by repeat constructor) hpm rfl (by dsimp only; omega) (by omega) (by dsimp only; rw [ht]; rfl)) ?_
    refine JN rfl rfl rfl rfl rfl ?_
    refine JL_nil ?_
    refine JQ_then_n ?_
    refine J_seq ?_
    refine J_reg ?_
    refine JM rfl rfl rfl rfl rfl ?_
    refine JP (rp_nil rfl rfl) ?_
    refine JP (rp_fieldC (off' := 0) rfl rfl fa_117_0 rfl) ?_
    refine JV (rv_cell rfl rfl ag_45 (by repeat constructor) (by rfl)) ?_
    refine JM rfl rfl rfl rfl rfl ?_
    refine JP (rp2 rfl rfl (fun ρ hx hy w => ex_indexI (k := t) rfl hx hy rfl Try.underlying45 sz_58 (by omega))) ?_
    refine JV (rv_ownaggE (L := rowsS T (rowN l)) (cs := eW (rowN l t)) EW rfl rfl ag_58 sz_58 (by repeat constructor) (by rw [rowsS_len]; omega) (by rw [rowsS_get])) ?_
    refine JL_op (wn0 rfl) (ow_alloc rfl rfl zv_58 rfl rfl) (fun b14 hb14 => ?_)
    refine JL_op (wn0 rfl) (ow_store (cs := [_, _, _, _, _, _, _, _]) (vs' := [_, _, _, _, _, _, _, _]) rfl rfl rfl rfl rfl sz_58 rfl (by repeat constructor) (by rfl) (by rfl)) (fun _ _ => ?_)
    refine JL_nil ?_
    refine JQ_then_n ?_
    refine J_seq ?_
    refine J_keep (l' := [(7, _), (8, _), (11, _), (14, _), (25, _), (26, _), (27, _), (34, _), (35, _), (36, _)]) ⟨rfl, rfl, rfl, rfl, rfl, rfl, rfl, rfl, rfl, rfl, trivial⟩ ?_
    refine J_reg ?_
    refine JM rfl rfl rfl rfl rfl ?_
    refine JP (rp_fieldC (off' := 1) rfl rfl fa_58_1 rfl) ?_
    refine JL_op (wn0 rfl) (ow_store (cs := [_]) (vs' := [_, _, _, _, _, _, _, _]) rfl rfl rfl rfl rfl sz_3 rfl (by repeat constructor) (by rfl) (by rfl)) (fun _ _ => ?_)
    refine JL_nil ?_
    refine JQ_then_n ?_
    refine J_reg ?_
    refine JM rfl rfl rfl rfl rfl ?_
    refine JV (rv_agg (cs := [_, _, _, _, _, _, _, _]) rfl rfl ag_58 sz_58 (by repeat constructor) (by rfl)) ?_
    refine JL_op (wn0 rfl) (ow_sliceC (vs := [_, _, _, _, _, _, _, _]) (ty := 58) rfl rfl (by rfl) rfl rfl (fun _ => by kernel_rfl)) (fun b51 hb51 => ?_)
    refine JL_opS (wn0 rfl) (ow_app1 EW (by decide) (plc (rowN l) (tblG (rowN l) ((ordP l T).take k)).length (t : Nat)) Try.underlying45 Try.info58 rfl (by decide) rfl rfl rfl rfl rfl (by repeat constructor) (by rfl) (by omega) (by intro A c; repeat constructor)) (fun A52 c52 => ?_)
    refine JN rfl rfl rfl rfl rfl ?_
    refine JL_nil ?_
    refine JQ_block_n ?_
    refine JQ_then_n ?_
    refine J_keep (l' := [(7, _), (8, _), (11, _), (25, _), (26, _), (27, _), (34, _), (35, _), (36, _)]) ⟨rfl, rfl, rfl, rfl, rfl, rfl, rfl, rfl, rfl, trivial⟩ ?_
    refine J_reg ?_
    refine JP (rp2 rfl rfl (fun ρ hx hy w => ex_add rfl hx hy (by omega))) ?_
    refine JM rfl rfl rfl rfl rfl ?_
    refine JL_nil ?_
    exact JQ_round (j + 1, A52, c52) (by dsimp only; omega) (by dsimp only; omega) ⟨rfl, (by rw [hsj]; rfl), rfl, rfl, rfl, rfl, rfl, rfl, (congrArg some (by go_num)), trivial⟩ (by (try dsimp only); rw [hsj]; repeat (first | exact Pk.nil _ | (refine Pk.pick (by repeat (first | exact Rm.here _ | apply Rm.there)) ?_)))
   ·refine JL_nil ?_
    refine JQ_then_n ?_
    refine J_seq ?_
    refine J_no rfl rfl ?_
    refine J_exit ?_
    refine JQ_then_x ?_
    refine JQ_then_x ?_
    refine JQ_block_y rfl ?_
    refine JQ_block_n ?_
    refine JQ_then_n ?_
    obtain rfl : j = pl.length := by omega
    refine J_keep (l' := [(7, _), (8, _), (25, _), (26, _), (27, _)]) ⟨rfl, rfl, rfl, rfl, rfl, trivial⟩ ?_
    refine J_reg ?_
    refine JP (rp2 rfl rfl (fun ρ hx hy w => ex_add rfl hx hy (by omega))) ?_
    refine JM rfl rfl rfl rfl rfl ?_
    refine JL_nil ?_
    exact JQ_round (k + 1, A8, c8) (by dsimp only; omega) (by dsimp only; omega) ⟨rfl, (by rw [hsn]; rfl), rfl, rfl, (congrArg some (by go_num)), trivial⟩ (by (try dsimp only); rw [hsn]; repeat (first | exact Pk.nil _ | (refine Pk.pick (by repeat (first | exact Rm.here _ | apply Rm.there)) ?_)))
  ·refine JL_nil ?_
   refine JQ_then_n ?_
   refine J_seq ?_
   refine J_no rfl rfl ?_
   refine J_exit ?_
   refine JQ_then_x ?_
   refine JQ_then_x ?_
   refine JQ_block_y rfl ?_
   refine JQ_then_n ?_
   refine J_seq ?_
   refine J_keep (l' := [(8, _)]) ⟨rfl, trivial⟩ ?_
   refine J_reg ?_
   refine JM rfl rfl rfl rfl rfl ?_
   refine JN rfl rfl rfl rfl rfl ?_
   refine JN rfl rfl rfl rfl rfl ?_
   refine JL_nil ?_
   refine JQ_then_n ?_
   refine J_ret ?_
   refine JR_two rfl (rr_tmp rfl) (rr_tmp rfl) ?_
   intro w' hw
   have ek : k = (ordP l T).length := by rw [← hD25, List.length_map]; omega
   have e : tblP (T : Nat) l = tblG (rowN l) ((ordP l T).take k) := by unfold tblP; rw [if_pos hc0, Int.toNat_natCast, ek, List.take_length]
   rw [e, hc0]
   exact ⟨A8, c8, rfl, hw.pick (by repeat constructor)⟩
end Go.Proofs.Ytlfbbofcnonhdaa

/- Contracts: Prizes. -/
namespace Go.Proofs.Ytlfbbofcnonhdaa
open Go Go.RowKit Go.Proofs

section
variable {α : Type} {k : Nat} {enc : α → List Value}
theorem Arr.drop {A : Option Addr} {n c m : Nat} {w : World} {l : List α} (h : Arr k enc w (.slice A n c) l) (hm : m ≤ l.length) : Arr k enc w (.slice (if c = m then A else A.map (·.add (m * k))) (n - m) (c - m)) (l.drop m) := by
 obtain ⟨A', cap, e, h2, h3, h4⟩ := h
 injection e with e1 e2 e3
 subst e1 e2 e3
 refine ⟨_, c - m, by rw [List.length_drop], by rw [List.length_drop]; omega, ⟨by rw [List.length_drop]; omega, by omega⟩, fun hn => ?_⟩
 have hl : m < l.length := by
  rcases Nat.lt_or_ge m l.length with h | h
  ·exact h
  ·exact absurd (List.drop_eq_nil_of_le h) hn
 obtain ⟨b, o, rfl, hh⟩ := h4 (by intro e; subst e; simp at hl)
 refine ⟨b, o + m * k, by rw [if_neg (by omega)]; show some (Addr.add _ _) = _; rw [Addr.add_mid], fun j hj i hi => ?_⟩
 rw [List.length_drop] at hj
 have := hh (m + j) (by omega) i hi
 rw [List.getElem_drop, ← this, Nat.add_mul, ← Nat.add_assoc]
end
/-- A table by numbers from 0 on. -/
def tabS {α : Type} (T : Nat) (f : Int → α) : List α := (List.range T).map fun t => f (t : Nat)
theorem tabS_len {α : Type} (T : Nat) (f : Int → α) : (tabS T f).length = T := by simp [tabS]
theorem tabS_get {α : Type} {T : Nat} {f : Int → α} {j : Nat} (h : j < (tabS T f).length) : (tabS T f)[j]'h = f (j : Nat) := by simp [tabS]
theorem tabS_set {α : Type} (T : Nat) (f g : Int → α) (j : Nat) (x : α) (h : ∀ t : Nat, t < T → g (t : Nat) = if t = j then x else f (t : Nat)) : (tabS T f).set j x = tabS T g := by
 refine List.ext_getElem (by simp [tabS]) (fun i h1 h2 => ?_)
 have hi : i < T := by simpa [tabS] using h2
 rw [List.getElem_set, tabS_get h2, h i hi]
 by_cases e : j = i
 ·subst e; simp
 ·rw [if_neg e, if_neg (fun h => e h.symm)]
  exact tabS_get _
theorem tabS_const {α : Type} (T : Nat) (x : α) : List.replicate T x = tabS T fun _ => x := by unfold tabS; rw [List.map_const']; simp
/-- What each team of a group gets. -/
def shr (s n : Int) : Int × Int := (s / (Int.gcd s n : Nat), n / (Int.gcd s n : Nat))
def fillS (f : Int → Int × Int) (d : List Int) (x : Int × Int) (t : Int) : Int × Int := if t ∈ d then x else f t
def prS (pz : List Int) (D : List (List Int)) : List Int × (Int → Int × Int) := D.foldl (fun s d => (s.1.drop d.length, fillS s.2 d (shr (s.1.take d.length).sum d.length))) (pz, fun _ => (0, 0))
theorem prS_snoc (pz : List Int) (D : List (List Int)) (k : Nat) (h : k < D.length) : prS pz (D.take (k + 1)) = ((prS pz (D.take k)).1.drop (D[k]'h).length, fillS (prS pz (D.take k)).2 (D[k]'h) (shr ((prS pz (D.take k)).1.take (D[k]'h).length).sum (D[k]'h).length)) := by
 rw [List.take_succ_eq_append_getElem h]; unfold prS; rw [List.foldl_append]; rfl
theorem prS_sub (pz : List Int) : ∀ (D : List (List Int)) (k : Nat), ∃ n, (prS pz (D.take k)).1 = pz.drop n
 | D, 0 => ⟨0, by simp [prS]⟩
 | D, k + 1 => by
  obtain ⟨n, hn⟩ := prS_sub pz D k
  rcases Nat.lt_or_ge k D.length with h | h
  ·rw [prS_snoc pz D k h]; exact ⟨n + (D[k]'h).length, by dsimp only; rw [hn, List.drop_drop]⟩
  ·rw [List.take_of_length_le (by omega)]; rw [List.take_of_length_le h] at hn; exact ⟨n, hn⟩
theorem sum_bd : ∀ (l : List Int), (∀ x ∈ l, 0 ≤ x ∧ x ≤ 1000000) → 0 ≤ l.sum ∧ l.sum ≤ 1000000 * l.length
 | [], _ => by simp
 | x :: l, h => by
  have h1 := h x (by simp)
  have h2 := sum_bd l fun y hy => h y (by simp [hy])
  rw [List.sum_cons, List.length_cons]; omega
theorem sum_snoc (l : List Int) (j : Nat) (h : j < l.length) : (l.take (j + 1)).sum = (l.take j).sum + l[j]'h := by
 rw [List.take_succ_eq_append_getElem h, List.sum_append]; simp
/-- Why there are no prizes; the prizes. -/
def przE (T : Int) (l : List Re) (pz : List Int) : Int := if chkE T l ≠ 0 then chkE T l else if 16 < pz.length then 3 else if (pz.any fun x => !decide (0 ≤ x ∧ x ≤ 1000000)) = true then 4 else 0
def przP (T : Int) (l : List Re) (pz : List Int) : List (Int × Int) := if przE T l pz = 0 then tabS T.toNat (prS pz (ordP l T.toNat)).2 else []
theorem cf_67 : ∀ (args : Array Value) (w : World), (callFunc 67 args).run Try.prog w = .ok (.enter 67 args) w := fun _ _ => by kernel_rfl
set_option maxRecDepth 100000 in
set_option maxHeartbeats 4000000 in
theorem prize67 (n : Int) (w : World) : Calls Try.prog 67 #[.int .i64 n] w (Back (.bool (!decide (0 ≤ n ∧ n ≤ 1000000))) w) := by
 refine J_enter (fun _ => False) (vs := [.int .i64 n]) (k := 5) (l := [(0, .int .i64 n)]) Try.func67 rfl rfl Try.ntmps67 rfl rfl (Wd.start _) ?_
 refine J_seq ?_
 refine J_reg ?_
 refine JN rfl rfl rfl rfl rfl ?_
 refine JL_nil ?_
 refine JQ_then_n ?_
 refine J_seq ?_
 refine J_reg ?_
 refine JM rfl rfl rfl rfl rfl ?_
 refine JL_op (wn0 rfl) (ow_callP (ec_fn rfl rfl cf_47) rfl rfl (fun w hw => within47 n 0 1000000 w)) (fun _ _ => ?_)
 refine JP (rp1 rfl (fun ρ hx w => ex_not rfl hx)) ?_
 refine JN rfl rfl rfl rfl rfl ?_
 refine JL_nil ?_
 refine JQ_then_n ?_
 refine J_ret ?_
 refine JR_one rfl (rr_tmp rfl) ?_
 intro w' hw
 exact ⟨rfl, hw.bel⟩
set_option maxRecDepth 100000 in
set_option maxHeartbeats 4000000 in
theorem Prizes27 (T : Int) (l : List Re) (pz : List Int) (v u : Value) (w : World) (hrow : Arr 6 eR w v l) (hw6 : ∀ x ∈ l, W6 x) (hpz : Arr 1 eI w u pz) : Calls Try.prog 27 #[.int .i64 T, v, u] w (RetSE 42 2 eP (przP T l pz) (przE T l pz) w) := by
 obtain ⟨A, cap, rfl⟩ := hrow.form
 obtain ⟨A2, cap2, rfl⟩ := hpz.form
 refine J_enter (fun _ => False) (vs := [.int .i64 T, .slice A l.length cap, .slice A2 pz.length cap2]) (k := 78) (l := [(0, .int .i64 T), (1, .slice A l.length cap), (2, .slice A2 pz.length cap2)]) Try.func27 rfl rfl Try.ntmps27 rfl rfl (Wd.start _) ?_
 refine J_seq ?_
 refine J_reg ?_
 refine JN rfl rfl rfl rfl rfl ?_
 refine JN rfl rfl rfl rfl rfl ?_
 refine JL_nil ?_
 refine JQ_then_n ?_
 refine J_seq ?_
 refine J_reg ?_
 refine JM rfl rfl rfl rfl rfl ?_
 refine JM rfl rfl rfl rfl rfl ?_
 refine JL_op (wn0 rfl) (ow_callB (ec_fn rfl rfl cf_29) rfl rfl (fun w hw => Check29 T l _ w (hrow.up ER hw.bel) hw6)) (fun _ _ => ?_)
 refine JN rfl rfl rfl rfl rfl ?_
 refine JL_nil ?_
 refine JQ_then_n ?_
 refine J_seq ?_
 refine J_block ?_
 refine J_seq ?_
 refine J_keep (l' := [(0, _), (1, _), (2, _), (8, _)]) ⟨rfl, rfl, rfl, rfl, trivial⟩ ?_
 refine J_reg ?_
 refine JM rfl rfl rfl rfl rfl ?_
 refine JP (rp2 rfl rfl (fun ρ hx hy w => ex_neq29 rfl hx hy)) ?_
 refine JL_dec (fun h22 => ?_) (fun h22 => ?_)
 ·refine JN rfl rfl rfl rfl rfl ?_
  refine JL_nil ?_
  refine JQ_then_n ?_
  refine J_yes rfl rfl ?_
  refine J_seq ?_
  refine J_keep (l' := [(8, _)]) ⟨rfl, trivial⟩ ?_
  refine J_reg ?_
  refine JM rfl rfl rfl rfl rfl ?_
  refine JN rfl rfl rfl rfl rfl ?_
  refine JN rfl rfl rfl rfl rfl ?_
  refine JL_nil ?_
  refine JQ_then_n ?_
  refine J_ret ?_
  refine JQ_block_r ?_
  refine JQ_then_r ?_
  refine JR_two rfl (rr_tmp rfl) (rr_tmp rfl) ?_
  intro w' hw
  have e : przE T l pz = chkE T l := by unfold przE; rw [if_pos h22]
  have e2 : przP T l pz = [] := by unfold przP; rw [if_neg (by rw [e]; omega)]
  rw [e, e2]
  exact ⟨none, 0, rfl, (hw.own0 42 2).pick (by repeat constructor)⟩
 ·refine JN rfl rfl rfl rfl rfl ?_
  refine JL_nil ?_
  refine JQ_then_n ?_
  refine J_no rfl rfl ?_
  refine J_seq ?_
  refine J_keep (l' := [(0, _), (1, _), (2, _)]) ⟨rfl, rfl, rfl, trivial⟩ ?_
  refine J_reg ?_
  refine JM rfl rfl rfl rfl rfl ?_
  refine JP (rp1 rfl (fun ρ hx w => ex_len (A := _) (c := _) rfl Try.underlying26 hx)) ?_
  refine JP (rp2 rfl rfl (fun ρ hx hy w => ex_gtrD rfl hx hy)) ?_
  refine JL_dec (fun h27 => ?_) (fun h27 => ?_)
  ·refine JN rfl rfl rfl rfl rfl ?_
   refine JL_nil ?_
   refine JQ_then_n ?_
   refine J_yes rfl rfl ?_
   refine J_seq ?_
   refine J_keep (l' := []) trivial ?_
   refine J_reg ?_
   refine JN rfl rfl rfl rfl rfl ?_
   refine JN rfl rfl rfl rfl rfl ?_
   refine JL_nil ?_
   refine JQ_then_n ?_
   refine J_ret ?_
   refine JQ_block_r ?_
   refine JQ_then_r ?_
   refine JR_two rfl (rr_tmp rfl) (rr_tmp rfl) ?_
   intro w' hw
   have e : przE T l pz = 3 := by unfold przE; rw [if_neg h22, if_pos (by omega)]
   have e2 : przP T l pz = [] := by unfold przP; rw [if_neg (by rw [e]; omega)]
   rw [e, e2]
   exact ⟨none, 0, rfl, (hw.own0 42 2).pick (by repeat constructor)⟩
  ·refine JN rfl rfl rfl rfl rfl ?_
   refine JL_nil ?_
   refine JQ_then_n ?_
   refine J_no rfl rfl ?_
   refine J_seq ?_
   refine J_keep (l' := [(0, _), (1, _), (2, _)]) ⟨rfl, rfl, rfl, trivial⟩ ?_
   refine J_reg ?_
   refine JM rfl rfl rfl rfl rfl ?_
   refine JL_op (wn0 rfl) (ow_callB (ec_fn rfl rfl cf_48) rfl rfl (fun w hw => ContainsFunc48 67 #[] #[] (fun x => !decide (0 ≤ x ∧ x ≤ 1000000)) pz _ w cf_67 (fun x _ W _ => prize67 x W) (hpz.up EI hw.bel) (by omega))) (fun _ _ => ?_)
   refine JL_bool (fun h30 => ?_) (fun h30 => ?_)
   ·refine JN rfl rfl rfl rfl rfl ?_
    refine JL_nil ?_
    refine JQ_then_n ?_
    refine J_yes rfl rfl ?_
    refine J_seq ?_
    refine J_keep (l' := []) trivial ?_
    refine J_reg ?_
    refine JN rfl rfl rfl rfl rfl ?_
    refine JN rfl rfl rfl rfl rfl ?_
    refine JL_nil ?_
    refine JQ_then_n ?_
    refine J_ret ?_
    refine JQ_block_r ?_
    refine JQ_then_r ?_
    refine JR_two rfl (rr_tmp rfl) (rr_tmp rfl) ?_
    intro w' hw
    have e : przE T l pz = 4 := by unfold przE; rw [if_neg h22, if_neg (by omega), if_pos h30]
    have e2 : przP T l pz = [] := by unfold przP; rw [if_neg (by rw [e]; omega)]
    rw [e, e2]
    exact ⟨none, 0, rfl, (hw.own0 42 2).pick (by repeat constructor)⟩
   ·refine JN rfl rfl rfl rfl rfl ?_
    refine JL_nil ?_
    refine JQ_then_n ?_
    refine J_no rfl rfl ?_
    refine J_skip ?_
    refine JQ_block_n ?_
    refine JQ_then_n ?_
    refine J_seq ?_
    have hc0 : chkE T l = 0 := by omega
    have hE0 : przE T l pz = 0 := by unfold przE; rw [if_neg h22, if_neg (by omega), if_neg (by rw [h30]; simp)]
    have hpr : ∀ x ∈ pz, 0 ≤ x ∧ x ≤ 1000000 := fun x hx => by
     have := List.any_eq_false.1 h30 x hx
     simpa using this
    obtain ⟨hT, hl, hvb⟩ := chk_ok hc0
    have hv : ∀ x ∈ l, ReB x := fun x hx => (vld_b (hvb x hx)).1
    obtain ⟨T, rfl⟩ := Int.eq_ofNat_of_zero_le (show 0 ≤ T by omega)
    refine J_reg ?_
    refine JM rfl rfl rfl rfl rfl ?_
    refine JL_op (wn0 rfl) (ow_make EP (0, 0) Try.underlying41 Try.info42 rfl (by decide) (by decide) rfl rfl rfl rfl rfl (by omega)) (fun b32 hb32 => ?_)
    refine JN rfl rfl rfl rfl rfl ?_
    refine JL_nil ?_
    refine JQ_then_n ?_
    refine J_seq ?_
    refine J_seq ?_
    rw [tabS_const]
    refine J_keep (l' := [(0, _), (1, _), (2, _), (9, _)]) ⟨rfl, rfl, rfl, rfl, trivial⟩ ?_
    refine J_reg ?_
    refine JM rfl rfl rfl rfl rfl ?_
    refine JM rfl rfl rfl rfl rfl ?_
    refine JL_op (wn0 rfl) (ow_callR (ec_fn rfl rfl cf_63) rfl rfl (fun _ => rfl) (fun w hw => stand63 T l _ w ⟨by omega, by omega⟩ hl (hrow.up ER hw.bel) hvb)) (fun t35 ht35 => ?_)
    obtain ⟨sb, rb, mb, n35, d35⟩ := t35
    dsimp only [StdG, List.cons_append, List.nil_append] at ht35 ⊢
    refine JL_op (wn0 rfl) (ow_callD (ec_fn rfl rfl cf_64) rfl rfl (fun _ => noOB) (fun w hw => order64 T l w sb rb mb (StF.of (t := (sb, rb, mb, n35, d35)) hw (by repeat constructor) (by repeat constructor) (by repeat constructor)) ⟨by omega, by omega⟩ hl hv hvb)) (fun t36 ht36 => ?_)
    obtain ⟨A36, c36, D36⟩ := t36
    obtain ⟨hD36, hN36⟩ := ht36
    dsimp only at hD36 hN36 ⊢
    refine JP (rp1 rfl (fun ρ hx w => ex_len (A := _) (c := _) rfl Try.underlying113 hx)) ?_
    refine JM rfl rfl rfl rfl rfl ?_
    refine JL_nil ?_
    refine JQ_then_n ?_
    refine J_block ?_
    refine J_loop (T := Nat × Dv Int) (fun q => q.1 ≤ D36.length ∧ Arr 1 eI w q.2.v q.2.l ∧ q.2.l = (prS pz ((ordP l T).take q.1)).1) (fun q => [(2, .slice q.2.A q.2.n q.2.c), (9, .slice (some ⟨b32, 0, none⟩) T T), (36, .slice A36 D36.length c36), (37, .int .i64 (D36.length : Nat)), (38, .int .i64 (q.1 : Nat))]) (fun q => [ownB 42 2 (some ⟨b32, 0, none⟩) T T ((tabS T ((prS pz ((ordP l T).take q.1)).2)).flatMap eP), ownB 26 1 A36 D36.length c36 (D36.flatMap eD), slsB 1 eI D36]) (fun q => D36.length - q.1) (0, ⟨A2, pz.length, cap2, pz⟩) ⟨Nat.zero_le _, hpz, rfl⟩ ⟨rfl, rfl, rfl, rfl, rfl, trivial⟩ (by repeat constructor) ?_
    rintro ⟨k, A2, n2, c2, l2⟩ ⟨hk, hA2, hl2⟩
    dsimp only at hk hA2 hl2 ⊢
    obtain ⟨A2', c2', e2⟩ := hA2.form
    obtain rfl : n2 = l2.length := by injection e2
    refine J_seq ?_
    refine J_reg ?_
    refine JP (rp2 rfl rfl (fun ρ hx hy w => ex_lssD rfl hx hy)) ?_
    refine JL_dec (fun h39 => ?_) (fun h39 => ?_)
    ·refine JL_nil ?_
     refine JQ_then_n ?_
     refine J_seq ?_
     refine J_yes rfl rfl ?_
     refine J_skip ?_
     refine JQ_then_n ?_
     refine J_seq ?_
     refine J_block ?_
     refine J_seq ?_
     have hlt : k < D36.length := by omega
     refine J_fact (fun hf => ?_)
     obtain ⟨b36, rfl⟩ := own_some (A := A36) hf (by repeat constructor) (by omega)
     have hcp : D36.length ≤ maxLen := Nat.le_trans (own_cap (A := some ⟨b36, 0, none⟩) (m := D36.length) hf (by repeat constructor)).1 (own_cap (A := some ⟨b36, 0, none⟩) (m := D36.length) hf (by repeat constructor)).2
     unfold maxLen at hcp
     obtain ⟨p, hp⟩ : ∃ p, D36[k]'hlt = p := ⟨_, rfl⟩
     have hpm : p ∈ D36 := by rw [← hp]; exact List.getElem_mem _
     obtain ⟨hpn, hpc, -, hpA⟩ := sls_len (D := D36) (p := p) hf (by repeat constructor) hpm
     have hkb : k < (ordP l T).length := by rw [← hD36, List.length_map]; exact hlt
     have hgk : (ordP l T)[k]'hkb = p.l := by
      have : (D36.map Dv.l)[k]'(by rw [List.length_map]; exact hlt) = p.l := by rw [List.getElem_map, hp]
      simpa only [hD36] using this
     have hsn := prS_snoc pz (ordP l T) k hkb
     have hfk := flatk_len k hkb
     have hpf := (ordP_perm l T).length_eq
     have hpin : ∀ x ∈ p.l, 0 ≤ x ∧ x < T := fun x hx => allT_in ((ordP_perm l T).mem_iff.1 (List.mem_flatten.2 ⟨_, by rw [← hgk]; exact List.getElem_mem _, hx⟩))
     rw [hgk] at hsn hfk
     rw [allT_len] at hpf
     obtain ⟨n0, hn0⟩ := prS_sub pz (ordP l T) k
     have hl2s : ∀ x ∈ l2, 0 ≤ x ∧ x ≤ 1000000 := fun x hx => hpr x (by rw [hl2, hn0] at hx; exact List.mem_of_mem_drop hx)
     have hl2n : l2.length ≤ 16 := by rw [hl2, hn0, List.length_drop]; omega
     replace hA2 : Arr 1 eI w (.slice A2 l2.length c2) l2 := hA2
     obtain ⟨A2q, c2q, e2', hc2, hc3, hA2m⟩ := hA2
     injection e2' with e3 e4 e5
     subst e3 e5
     have hA2 : Arr 1 eI w (.slice A2 l2.length c2) l2 := ⟨A2, c2, rfl, hc2, hc3, hA2m⟩
     obtain ⟨pA, pn, pc, pl⟩ := p
     dsimp only at hpn hpc hgk hsn hfk hpin hpA
     subst hpn
     obtain ⟨m, hm⟩ : ∃ m : Nat, min pl.length l2.length = m := ⟨_, rfl⟩
     have hml : m ≤ l2.length := by omega
     have htk : l2.take pl.length = l2.take m := by
      rcases Nat.le_total pl.length l2.length with h | h
      ·rw [show m = pl.length by omega]
      ·rw [List.take_of_length_le h, List.take_of_length_le (by omega)]
     have hdm : l2.drop pl.length = l2.drop m := by
      rcases Nat.le_total pl.length l2.length with h | h
      ·rw [show m = pl.length by omega]
      ·rw [List.drop_eq_nil_of_le h, List.drop_eq_nil_of_le (by omega)]
     have hsb : ∀ j, 0 ≤ (l2.take j).sum ∧ (l2.take j).sum ≤ 16000000 := fun j => by
      have := sum_bd (l2.take j) (fun x hx => hl2s x (List.mem_of_mem_take hx))
      rw [List.length_take] at this; omega
     have hsn2 : (prS pz ((ordP l T).take (k + 1))).2 = fillS (prS pz ((ordP l T).take k)).2 pl (shr (l2.take m).sum pl.length) := by rw [hsn, ← hl2, htk]
     refine J_reg ?_
     refine JP (rp2 rfl rfl (fun ρ hx hy w => ex_indexE rfl hx hy Try.underlying113 sz_26 (by omega))) ?_
     refine JV (rv_ownE (L := D36) ED rfl rfl ag_26 (by repeat constructor) (by omega) (by omega) (by rw [hp]; rfl)) ?_
     refine JN rfl rfl rfl rfl rfl ?_
     refine JL_nil ?_
     refine JQ_then_n ?_
     refine J_seq ?_
     refine J_reg ?_
     refine JN rfl rfl rfl rfl rfl ?_
     refine JL_nil ?_
     refine JQ_then_n ?_
     refine J_seq ?_
     refine J_seq ?_
     dsimp only
     refine J_reg ?_
     refine JM rfl rfl rfl rfl rfl ?_
     refine JM rfl rfl rfl rfl rfl ?_
     refine JP (rp1 rfl (fun ρ hx w => ex_len (A := _) (c := _) rfl Try.underlying26 hx)) ?_
     refine JM rfl rfl rfl rfl rfl ?_
     refine JP (rp1 rfl (fun ρ hx w => ex_len (A := _) (c := _) rfl Try.underlying26 hx)) ?_
     refine JP (rp2 rfl rfl (fun ρ hx hy w => ex_min rfl hx hy)) ?_
     refine JP (rp_sliceTo (k := m) rfl rfl rfl Try.underlying26 sz_3 (by omega) (by omega)) ?_
     refine JP (rp1 rfl (fun ρ hx w => ex_len (A := _) (c := _) rfl Try.underlying26 hx)) ?_
     refine JM rfl rfl rfl rfl rfl ?_
     refine JL_nil ?_
     refine JQ_then_n ?_
     refine J_block ?_
     refine J_loop (T := Nat) (fun j => j ≤ m) (fun j => [(2, .slice A2 l2.length c2), (9, .slice (some ⟨b32, 0, none⟩) T T), (11, .slice pA pl.length pc), (36, .slice (some ⟨b36, 0, none⟩) D36.length c36), (37, .int .i64 (D36.length : Nat)), (38, .int .i64 (k : Nat)), (12, .int .i64 (l2.take j).sum), (48, .slice A2 m c2), (49, .int .i64 (m : Nat)), (50, .int .i64 (j : Nat))]) (fun j => [ownB 42 2 (some ⟨b32, 0, none⟩) T T ((tabS T ((prS pz ((ordP l T).take k)).2)).flatMap eP), ownB 26 1 (some ⟨b36, 0, none⟩) D36.length c36 (D36.flatMap eD), slsB 1 eI D36]) (fun j => m - j) 0 (Nat.zero_le _) ⟨rfl, rfl, rfl, rfl, rfl, rfl, rfl, rfl, rfl, rfl, trivial⟩ (by repeat constructor) ?_
     rintro j hj
     refine J_seq ?_
     refine J_reg ?_
     refine JP (rp2 rfl rfl (fun ρ hx hy w => ex_lssD rfl hx hy)) ?_
     refine JL_dec (fun h51 => ?_) (fun h51 => ?_)
     ·refine JL_nil ?_
      refine JQ_then_n ?_
      refine J_seq ?_
      refine J_yes rfl rfl ?_
      refine J_skip ?_
      refine JQ_then_n ?_
      refine J_seq ?_
      refine J_block ?_
      refine J_seq ?_
      have hl2j : j < l2.length := by omega
      obtain ⟨b2, o2, rfl, hh⟩ := hA2m (by intro e; subst e; simp at hl2j)
      have hs1 := hsb j
      have hs2 := hl2s _ (List.getElem_mem hl2j)
      refine J_reg ?_
      refine JP (rp2 rfl rfl (fun ρ hx hy w => ex_indexE rfl hx hy Try.underlying26 sz_3 (by omega))) ?_
      refine JV (rv_hold rfl rfl ag_3 (fun h => h) hh (by omega) (by omega) rfl) ?_
      refine JN rfl rfl rfl rfl rfl ?_
      refine JL_nil ?_
      refine JQ_then_n ?_
      refine J_reg ?_
      refine JM rfl rfl rfl rfl rfl ?_
      refine JM rfl rfl rfl rfl rfl ?_
      refine JP (rp2 rfl rfl (fun ρ hx hy w => ex_add rfl hx hy (by omega))) ?_
      refine JN rfl rfl rfl rfl rfl ?_
      refine JL_nil ?_
      refine JQ_block_n ?_
      refine JQ_then_n ?_
      refine J_keep (l' := [(2, _), (9, _), (11, _), (12, _), (36, _), (37, _), (38, _), (48, _), (49, _), (50, _)]) ⟨rfl, rfl, rfl, rfl, rfl, rfl, rfl, rfl, rfl, rfl, trivial⟩ ?_
      refine J_reg ?_
      refine JP (rp2 rfl rfl (fun ρ hx hy w => ex_add rfl hx hy (by omega))) ?_
      refine JM rfl rfl rfl rfl rfl ?_
      refine JL_nil ?_
      exact JQ_round (j + 1) (by omega) (by omega) ⟨rfl, rfl, rfl, rfl, rfl, rfl, (by rw [sum_snoc l2 j hl2j]; rfl), rfl, rfl, (congrArg some (by go_num)), trivial⟩ (by repeat constructor)
     ·refine JL_nil ?_
      refine JQ_then_n ?_
      refine J_seq ?_
      refine J_no rfl rfl ?_
      refine J_exit ?_
      refine JQ_then_x ?_
      refine JQ_then_x ?_
      refine JQ_block_y rfl ?_
      refine JQ_then_n ?_
      refine J_seq ?_
      obtain rfl : m = j := by omega
      refine J_keep (l' := [(2, _), (9, _), (11, _), (12, _), (36, _), (37, _), (38, _)]) ⟨rfl, rfl, rfl, rfl, rfl, rfl, rfl, trivial⟩ ?_
      refine J_reg ?_
      refine JM rfl rfl rfl rfl rfl ?_
      refine JM rfl rfl rfl rfl rfl ?_
      refine JP (rp1 rfl (fun ρ hx w => ex_len (A := _) (c := _) rfl Try.underlying26 hx)) ?_
      refine JM rfl rfl rfl rfl rfl ?_
      refine JP (rp1 rfl (fun ρ hx w => ex_len (A := _) (c := _) rfl Try.underlying26 hx)) ?_
      refine JP (rp2 rfl rfl (fun ρ hx hy w => ex_min rfl hx hy)) ?_
      refine JP (rp_sliceFrom (k := m) rfl rfl rfl Try.underlying26 sz_3 (by omega) (by omega)) ?_
      refine JN rfl rfl rfl rfl rfl ?_
      refine JL_nil ?_
      refine JQ_then_n ?_
      refine J_seq ?_
      refine J_keep (l' := [(2, _), (9, _), (11, _), (12, _), (36, _), (37, _), (38, _)]) ⟨rfl, rfl, rfl, rfl, rfl, rfl, rfl, trivial⟩ ?_
      refine J_reg ?_
      refine JM rfl rfl rfl rfl rfl ?_
      refine JP (rp1 rfl (fun ρ hx w => ex_len (A := _) (c := _) rfl Try.underlying26 hx)) ?_
      refine JM rfl rfl rfl rfl rfl ?_
      refine JL_nil ?_
      refine JQ_then_n ?_
      refine J_block ?_
      refine J_loop (T := Nat) (fun j => j ≤ pl.length) (fun j => [(2, .slice (if c2 = m then A2 else A2.map (·.add (m * 1))) (l2.length - m) (c2 - m)), (9, .slice (some ⟨b32, 0, none⟩) T T), (11, .slice pA pl.length pc), (36, .slice (some ⟨b36, 0, none⟩) D36.length c36), (37, .int .i64 (D36.length : Nat)), (38, .int .i64 (k : Nat)), (12, .int .i64 (l2.take m).sum), (65, .slice pA pl.length pc), (66, .int .i64 (pl.length : Nat)), (67, .int .i64 (j : Nat))]) (fun j => [ownB 42 2 (some ⟨b32, 0, none⟩) T T ((tabS T (fillS (prS pz ((ordP l T).take k)).2 (pl.take j) (shr (l2.take m).sum pl.length))).flatMap eP), ownB 26 1 (some ⟨b36, 0, none⟩) D36.length c36 (D36.flatMap eD), slsB 1 eI D36]) (fun j => pl.length - j) 0 (Nat.zero_le _) ⟨rfl, rfl, rfl, rfl, rfl, rfl, rfl, rfl, rfl, rfl, trivial⟩ (by repeat constructor) ?_
      rintro j hj
      refine J_seq ?_
      refine J_reg ?_
      refine JP (rp2 rfl rfl (fun ρ hx hy w => ex_lssD rfl hx hy)) ?_
      refine JL_dec (fun h68 => ?_) (fun h68 => ?_)
      ·refine JL_nil ?_
       refine JQ_then_n ?_
       refine J_seq ?_
       refine J_yes rfl rfl ?_
       refine J_skip ?_
       refine JQ_then_n ?_
       refine J_seq ?_
       refine J_block ?_
       refine J_seq ?_
       have hlj : j < pl.length := by omega
       obtain ⟨pb, po, rfl⟩ := hpA (by intro e; subst e; simp at hlj)
       obtain ⟨t, ht⟩ := Int.eq_ofNat_of_zero_le (hpin _ (List.getElem_mem hlj)).1
       have htT := (hpin _ (List.getElem_mem hlj)).2
       rw [ht] at htT
       have hs1 := hsb m
       have hset := tabS_set T (fillS (prS pz ((ordP l T).take k)).2 (pl.take j) (shr (l2.take m).sum pl.length)) (fillS (prS pz ((ordP l T).take k)).2 (pl.take (j + 1)) (shr (l2.take m).sum pl.length)) t (shr (l2.take m).sum pl.length) (fun i hi => by
        unfold fillS
        rw [List.take_succ_eq_append_getElem hlj, ht]
        by_cases e : i = t
        ·subst e; simp
        ·have : ¬ (i : Int) = (t : Int) := by omega
         simp [e, this])
       refine J_reg ?_
       refine JP (rp2 rfl rfl (fun ρ hx hy w => ex_indexE rfl hx hy Try.underlying26 sz_3 (by omega))) ?_
       refine JV (rv_sls (D := D36) ⟨some ⟨pb, po, none⟩, pl.length, pc, pl⟩ rfl rfl ag_3 (by repeat constructor) hpm rfl (by dsimp only; omega) (by omega) (by dsimp only; rw [ht]; rfl)) ?_
       refine JN rfl rfl rfl rfl rfl ?_
       refine JL_nil ?_
       refine JQ_then_n ?_
       refine J_reg ?_
       refine JM rfl rfl rfl rfl rfl ?_
       refine JM rfl rfl rfl rfl rfl ?_
       refine JM rfl rfl rfl rfl rfl ?_
       refine JM rfl rfl rfl rfl rfl ?_
       refine JP (rp1 rfl (fun ρ hx w => ex_len (A := _) (c := _) rfl Try.underlying26 hx)) ?_
       refine JL_op (wn0 rfl) (ow_callB (ec_fn rfl rfl cf_68) rfl rfl (fun w hw => lowest68 (l2.take m).sum pl.length w ⟨by omega, by omega⟩ ⟨by omega, by omega⟩)) (fun _ _ => ?_)
       refine JP (rp2 rfl rfl (fun ρ hx hy w => ex_indexI (k := t) rfl hx hy rfl Try.underlying41 sz_42 (by omega))) ?_
       refine JL_op (wn0 rfl) (ow_storeE (cs := [_, _]) EP (shr (l2.take m).sum pl.length) rfl rfl rfl rfl rfl sz_42 rfl (by repeat constructor) (by rw [tabS_len]; omega) (Nat.le_of_ble_eq_true rfl) rfl) (fun _ _ => ?_)
       refine JL_nil ?_
       refine JQ_block_n ?_
       refine JQ_then_n ?_
       refine J_keep (l' := [(2, _), (9, _), (11, _), (12, _), (36, _), (37, _), (38, _), (65, _), (66, _), (67, _)]) ⟨rfl, rfl, rfl, rfl, rfl, rfl, rfl, rfl, rfl, rfl, trivial⟩ ?_
       refine J_reg ?_
       refine JP (rp2 rfl rfl (fun ρ hx hy w => ex_add rfl hx hy (by omega))) ?_
       refine JM rfl rfl rfl rfl rfl ?_
       refine JL_nil ?_
       exact JQ_round (j + 1) (by omega) (by omega) ⟨rfl, rfl, rfl, rfl, rfl, rfl, rfl, rfl, rfl, (congrArg some (by go_num)), trivial⟩ (by (try dsimp only); rw [← hset]; repeat (first | exact Pk.nil _ | (refine Pk.pick (by repeat (first | exact Rm.here _ | apply Rm.there)) ?_)))
      ·refine JL_nil ?_
       refine JQ_then_n ?_
       refine J_seq ?_
       refine J_no rfl rfl ?_
       refine J_exit ?_
       refine JQ_then_x ?_
       refine JQ_then_x ?_
       refine JQ_block_y rfl ?_
       refine JQ_block_n ?_
       refine JQ_then_n ?_
       obtain rfl : j = pl.length := by omega
       rw [List.take_length]
       refine J_keep (l' := [(2, _), (9, _), (36, _), (37, _), (38, _)]) ⟨rfl, rfl, rfl, rfl, rfl, trivial⟩ ?_
       refine J_reg ?_
       refine JP (rp2 rfl rfl (fun ρ hx hy w => ex_add rfl hx hy (by omega))) ?_
       refine JM rfl rfl rfl rfl rfl ?_
       refine JL_nil ?_
       exact JQ_round (k + 1, ⟨if c2 = m then A2 else A2.map (·.add (m * 1)), l2.length - m, c2 - m, l2.drop m⟩) ⟨by dsimp only; omega, hA2.drop (by omega), by dsimp only; rw [hsn, ← hl2, hdm]⟩ (by dsimp only; omega) ⟨rfl, rfl, rfl, rfl, (congrArg some (by go_num)), trivial⟩ (by (try dsimp only); rw [hsn2]; repeat (first | exact Pk.nil _ | (refine Pk.pick (by repeat (first | exact Rm.here _ | apply Rm.there)) ?_)))
    ·refine JL_nil ?_
     refine JQ_then_n ?_
     refine J_seq ?_
     refine J_no rfl rfl ?_
     refine J_exit ?_
     refine JQ_then_x ?_
     refine JQ_then_x ?_
     refine JQ_block_y rfl ?_
     refine JQ_then_n ?_
     refine J_seq ?_
     refine J_keep (l' := [(9, _)]) ⟨rfl, trivial⟩ ?_
     refine J_reg ?_
     refine JM rfl rfl rfl rfl rfl ?_
     refine JN rfl rfl rfl rfl rfl ?_
     refine JN rfl rfl rfl rfl rfl ?_
     refine JL_nil ?_
     refine JQ_then_n ?_
     refine J_ret ?_
     refine JR_two rfl (rr_tmp rfl) (rr_tmp rfl) ?_
     intro w' hw
     have ek : k = (ordP l T).length := by rw [← hD36, List.length_map]; omega
     have e : przP (T : Nat) l pz = tabS T (prS pz ((ordP l T).take k)).2 := by unfold przP; rw [if_pos hE0, Int.toNat_natCast, ek, List.take_length]
     rw [e, hE0]
     refine ⟨_, T, by rw [tabS_len], ?_⟩
     rw [tabS_len]
     exact hw.pick (by repeat constructor)
end Go.Proofs.Ytlfbbofcnonhdaa

/- Contracts of the document: Table, Prizes. -/
namespace Go.Proofs.Ytlfbbofcnonhdaa
open Go Go.RowKit Go.Proofs

/-- The document's table. -/
def tblR (T : Int) (l : List Re) : List Rw := if chkE T l = 0 then tblG (refRow l) (ordF l T.toNat) else []
def przR (T : Int) (l : List Re) (pz : List Int) : List (Int × Int) := if przE T l pz = 0 then tabS T.toNat (prS pz (ordF l T.toNat)).2 else []
/-- The document's places hold each team once. -/
def OrdOk (T : Int) (l : List Re) : Prop := chkE T l = 0 → (ordF l T.toNat).flatten.Perm (allT T.toNat)

set_option maxRecDepth 100000 in
set_option maxHeartbeats 4000000 in
theorem Table26 (T : Int) (l : List Re) (v : Value) (w : World) (hrow : Arr 6 eR w v l) (hperm : OrdOk T l) : Calls Try.prog 26 #[.int .i64 T, v] w (RetSE 58 8 eW (tblR T l) (chkE T l) w) := by
 obtain ⟨A, cap, rfl⟩ := hrow.form
 refine J_enter (fun _ => False) (vs := [.int .i64 T, .slice A l.length cap]) (k := 54) (l := [(0, .int .i64 T), (1, .slice A l.length cap)]) Try.func26 rfl rfl Try.ntmps26 rfl rfl (Wd.start _) ?_
 refine J_seq ?_
 refine J_reg ?_
 refine JN rfl rfl rfl rfl rfl ?_
 refine JN rfl rfl rfl rfl rfl ?_
 refine JL_nil ?_
 refine JQ_then_n ?_
 refine J_seq ?_
 refine J_reg ?_
 refine JM rfl rfl rfl rfl rfl ?_
 refine JM rfl rfl rfl rfl rfl ?_
 refine JL_op (wn0 rfl) (ow_callB (ec_fn rfl rfl cf_30) rfl rfl (fun w hw => Check30 T l _ w (hrow.up ER hw.bel))) (fun _ _ => ?_)
 refine JN rfl rfl rfl rfl rfl ?_
 refine JL_nil ?_
 refine JQ_then_n ?_
 refine J_seq ?_
 refine J_seq ?_
 refine J_keep (l' := [(0, _), (1, _), (6, _)]) ⟨rfl, rfl, rfl, trivial⟩ ?_
 refine J_reg ?_
 refine JM rfl rfl rfl rfl rfl ?_
 refine JP (rp2 rfl rfl (fun ρ hx hy w => ex_neq29 rfl hx hy)) ?_
 refine JL_dec (fun h17 => ?_) (fun h17 => ?_)
 ·refine JL_nil ?_
  refine JQ_then_n ?_
  refine J_yes rfl rfl ?_
  refine J_seq ?_
  refine J_keep (l' := [(6, _)]) ⟨rfl, trivial⟩ ?_
  refine J_reg ?_
  refine JM rfl rfl rfl rfl rfl ?_
  refine JN rfl rfl rfl rfl rfl ?_
  refine JN rfl rfl rfl rfl rfl ?_
  refine JL_nil ?_
  refine JQ_then_n ?_
  refine J_ret ?_
  refine JQ_then_r ?_
  refine JR_two rfl (rr_tmp rfl) (rr_tmp rfl) ?_
  intro w' hw
  have e : tblR T l = [] := by unfold tblR; rw [if_neg (by omega)]
  rw [e]
  exact ⟨none, 0, rfl, (hw.own0 58 8).pick (by repeat constructor)⟩
 ·refine JL_nil ?_
  refine JQ_then_n ?_
  refine J_no rfl rfl ?_
  refine J_skip ?_
  refine JQ_then_n ?_
  refine J_seq ?_
  have hc0 : chkE T l = 0 := by omega
  obtain ⟨hT, hl, hvb⟩ := chk_ok hc0
  have hv : ∀ x ∈ l, ReB x := fun x hx => (vld_b (hvb x hx)).1
  obtain ⟨T, rfl⟩ := Int.eq_ofNat_of_zero_le (show 0 ≤ T by omega)
  replace hperm : (ordF l T).flatten.Perm (allT T) := hperm hc0
  refine J_reg ?_
  refine JM rfl rfl rfl rfl rfl ?_
  refine JM rfl rfl rfl rfl rfl ?_
  refine JL_op (wn0 rfl) (ow_callD (ec_fn rfl rfl cf_65) rfl rfl (fun _ => noOB) (fun w hw => Order65 l T _ w (hrow.up ER hw.bel) hl (by omega) hv)) (fun t21 ht21 => ?_)
  obtain ⟨A21, c21, D21⟩ := t21
  obtain ⟨hD21, hN21⟩ := ht21
  dsimp only at hD21 hN21 ⊢
  refine JN rfl rfl rfl rfl rfl ?_
  refine JL_nil ?_
  refine JQ_then_n ?_
  refine J_seq ?_
  refine J_own0 58 8 ?_
  refine J_keep (l' := [(1, _), (7, _)]) ⟨rfl, rfl, trivial⟩ ?_
  refine J_reg ?_
  refine JN rfl rfl rfl rfl rfl ?_
  refine JL_nil ?_
  refine JQ_then_n ?_
  refine J_seq ?_
  refine J_seq ?_
  refine J_reg ?_
  refine JN rfl rfl rfl rfl rfl ?_
  refine JL_nil ?_
  refine JQ_then_n ?_
  refine J_block ?_
  refine J_loop (T := Nat × Option Addr × Nat) (fun q => q.1 ≤ D21.length) (fun q => [(1, .slice A l.length cap), (7, .slice A21 D21.length c21), (8, .slice q.2.1 (tblG (refRow l) ((ordF l T).take q.1)).length q.2.2), (9, .int .i64 (q.1 : Nat))]) (fun q => [ownB 58 8 q.2.1 (tblG (refRow l) ((ordF l T).take q.1)).length q.2.2 ((tblG (refRow l) ((ordF l T).take q.1)).flatMap eW), ownB 26 1 A21 D21.length c21 (D21.flatMap eD), slsB 1 eI D21]) (fun q => D21.length - q.1) (0, none, 0) (Nat.zero_le _) ⟨rfl, rfl, rfl, rfl, trivial⟩ (by repeat constructor) ?_
  rintro ⟨k, A8, c8⟩ hk
  dsimp only at hk ⊢
  refine J_seq ?_
  refine J_seq ?_
  refine J_reg ?_
  refine JM rfl rfl rfl rfl rfl ?_
  refine JM rfl rfl rfl rfl rfl ?_
  refine JP (rp1 rfl (fun ρ hx w => ex_len (A := _) (c := _) rfl Try.underlying113 hx)) ?_
  refine JP (rp2 rfl rfl (fun ρ hx hy w => ex_lssD rfl hx hy)) ?_
  refine JL_dec (fun h25 => ?_) (fun h25 => ?_)
  ·refine JL_nil ?_
   refine JQ_then_n ?_
   refine J_yes rfl rfl ?_
   refine J_skip ?_
   refine JQ_then_n ?_
   refine J_seq ?_
   refine J_block ?_
   refine J_seq ?_
   have hlt : k < D21.length := by omega
   refine J_fact (fun hf => ?_)
   obtain ⟨b21, rfl⟩ := own_some (A := A21) hf (by repeat constructor) (by omega)
   have hcp : D21.length ≤ maxLen := Nat.le_trans (own_cap (A := some ⟨b21, 0, none⟩) (m := D21.length) hf (by repeat constructor)).1 (own_cap (A := some ⟨b21, 0, none⟩) (m := D21.length) hf (by repeat constructor)).2
   unfold maxLen at hcp
   obtain ⟨p, hp⟩ : ∃ p, D21[k]'hlt = p := ⟨_, rfl⟩
   have hpm : p ∈ D21 := by rw [← hp]; exact List.getElem_mem _
   obtain ⟨hpn, hpc, -, hpA⟩ := sls_len (D := D21) (p := p) hf (by repeat constructor) hpm
   have hkb : k < (ordF l T).length := by rw [← hD21, List.length_map]; exact hlt
   have hgk : (ordF l T)[k]'hkb = p.l := by
    have : (D21.map Dv.l)[k]'(by rw [List.length_map]; exact hlt) = p.l := by rw [List.getElem_map, hp]
    simpa only [hD21] using this
   have hsn := tblG_snoc (refRow l) (ordF l T) k hkb
   have htl := tblG_len (refRow l) ((ordF l T).take k)
   have hfk := flatk_len k hkb
   have hpf := hperm.length_eq
   have hpin : ∀ x ∈ p.l, 0 ≤ x ∧ x < T := fun x hx => allT_in (hperm.mem_iff.1 (List.mem_flatten.2 ⟨_, by rw [← hgk]; exact List.getElem_mem _, hx⟩))
   rw [hgk] at hsn hfk
   rw [allT_len] at hpf
   obtain ⟨pA, pn, pc, pl⟩ := p
   dsimp only at hpn hpc hgk hsn hfk hpin hpA
   subst hpn
   refine J_keep (l' := [(1, _), (7, _), (8, _), (9, _)]) ⟨rfl, rfl, rfl, rfl, trivial⟩ ?_
   refine J_reg ?_
   refine JM rfl rfl rfl rfl rfl ?_
   refine JP (rp1 rfl (fun ρ hx w => ex_len (A := _) (c := _) rfl Try.underlying45 hx)) ?_
   refine JP (rp2 rfl rfl (fun ρ hx hy w => ex_add rfl hx hy (by omega))) ?_
   refine JN rfl rfl rfl rfl rfl ?_
   refine JL_nil ?_
   refine JQ_then_n ?_
   refine J_seq ?_
   refine J_reg ?_
   refine JN rfl rfl rfl rfl rfl ?_
   refine JL_nil ?_
   refine JQ_then_n ?_
   refine J_block ?_
   refine J_loop (T := Nat × Option Addr × Nat) (fun q => q.1 ≤ pl.length) (fun q => [(1, .slice A l.length cap), (7, .slice (some ⟨b21, 0, none⟩) D21.length c21), (8, .slice q.2.1 (tblA (refRow l) (tblG (refRow l) ((ordF l T).take k)) pl q.1).length q.2.2), (9, .int .i64 (k : Nat)), (10, .int .i64 (((tblG (refRow l) ((ordF l T).take k)).length : Nat) + 1)), (11, .int .i64 (q.1 : Nat))]) (fun q => [ownB 58 8 q.2.1 (tblA (refRow l) (tblG (refRow l) ((ordF l T).take k)) pl q.1).length q.2.2 ((tblA (refRow l) (tblG (refRow l) ((ordF l T).take k)) pl q.1).flatMap eW), ownB 26 1 (some ⟨b21, 0, none⟩) D21.length c21 (D21.flatMap eD), slsB 1 eI D21]) (fun q => pl.length - q.1) (0, A8, c8) (Nat.zero_le _) ⟨rfl, rfl, rfl, rfl, rfl, rfl, trivial⟩ (by repeat constructor) ?_
   rintro ⟨j, A8, c8⟩ hj
   dsimp only at hj ⊢
   refine J_seq ?_
   refine J_seq ?_
   refine J_reg ?_
   refine JM rfl rfl rfl rfl rfl ?_
   refine JM rfl rfl rfl rfl rfl ?_
   refine JM rfl rfl rfl rfl rfl ?_
   refine JP (rp2 rfl rfl (fun ρ hx hy w => ex_indexE rfl hx hy Try.underlying113 sz_26 (by omega))) ?_
   refine JV (rv_ownE (L := D21) (v := .slice _ pl.length pc) ED rfl rfl ag_26 (by repeat constructor) (by omega) (by omega) (by rw [hp]; rfl)) ?_
   refine JP (rp1 rfl (fun ρ hx w => ex_len (A := _) (c := _) rfl Try.underlying26 hx)) ?_
   refine JP (rp2 rfl rfl (fun ρ hx hy w => ex_lssD rfl hx hy)) ?_
   refine JL_dec (fun h37 => ?_) (fun h37 => ?_)
   ·refine JL_nil ?_
    refine JQ_then_n ?_
    refine J_yes rfl rfl ?_
    refine J_skip ?_
    refine JQ_then_n ?_
    refine J_seq ?_
    refine J_block ?_
    refine J_seq ?_
    have hlj : j < pl.length := by omega
    obtain ⟨pb, po, rfl⟩ := hpA (by intro e; subst e; simp at hlj)
    have hal : (tblA (refRow l) (tblG (refRow l) ((ordF l T).take k)) pl j).length ≤ T := by rw [tblA_len _ _ _ _ hj]; omega
    obtain ⟨t, ht⟩ := Int.eq_ofNat_of_zero_le (hpin _ (List.getElem_mem hlj)).1
    have htT := (hpin _ (List.getElem_mem hlj)).2
    rw [ht] at htT
    have hsj := tblA_snoc (refRow l) (tblG (refRow l) ((ordF l T).take k)) pl j hlj
    rw [ht] at hsj
    refine J_keep (l' := [(1, _), (7, _), (8, _), (9, _), (10, _), (11, _)]) ⟨rfl, rfl, rfl, rfl, rfl, rfl, trivial⟩ ?_
    refine J_reg ?_
    refine JM rfl rfl rfl rfl rfl ?_
    refine JM rfl rfl rfl rfl rfl ?_
    refine JM rfl rfl rfl rfl rfl ?_
    refine JP (rp2 rfl rfl (fun ρ hx hy w => ex_indexE rfl hx hy Try.underlying113 sz_26 (by omega))) ?_
    refine JV (rv_ownE (L := D21) (v := .slice _ pl.length pc) ED rfl rfl ag_26 (by repeat constructor) (by omega) (by omega) (by rw [hp]; rfl)) ?_
    refine JM rfl rfl rfl rfl rfl ?_
    refine JP (rp2 rfl rfl (fun ρ hx hy w => ex_indexE rfl hx hy Try.underlying26 sz_3 (by omega))) ?_
    refine JV (rv_sls (D := D21) ⟨some ⟨pb, po, none⟩, pl.length, pc, pl⟩ rfl rfl ag_3 (by repeat constructor) hpm rfl (by dsimp only; omega) (by omega) (by dsimp only; rw [ht]; rfl)) ?_
    refine JL_op (wn0 rfl) (ow_callB (ec_fn rfl rfl cf_66) rfl rfl (fun w hw => row66 l t _ w (hrow.up ER hw.bel) hl hv)) (fun _ _ => ?_)
    refine JL_op (wn0 rfl) (ow_alloc rfl rfl zv_58 rfl rfl) (fun b12 hb12 => ?_)
    refine JL_op (wn0 rfl) (ow_store (cs := [_, _, _, _, _, _, _, _]) (vs' := [_, _, _, _, _, _, _, _]) rfl rfl rfl rfl rfl sz_58 rfl (by repeat constructor) (by rfl) (by rfl)) (fun _ _ => ?_)
    refine JL_nil ?_
    refine JQ_then_n ?_
    refine J_seq ?_
    refine J_keep (l' := [(1, _), (7, _), (8, _), (9, _), (10, _), (11, _), (12, _)]) ⟨rfl, rfl, rfl, rfl, rfl, rfl, rfl, trivial⟩ ?_
    refine J_reg ?_
    refine JM rfl rfl rfl rfl rfl ?_
    refine JP (rp_fieldC (off' := 1) rfl rfl fa_58_1 rfl) ?_
    refine JL_op (wn0 rfl) (ow_store (cs := [_]) (vs' := [_, _, _, _, _, _, _, _]) rfl rfl rfl rfl rfl sz_3 rfl (by repeat constructor) (by rfl) (by rfl)) (fun _ _ => ?_)
    refine JL_nil ?_
    refine JQ_then_n ?_
    refine J_reg ?_
    refine JM rfl rfl rfl rfl rfl ?_
    refine JV (rv_agg (cs := [_, _, _, _, _, _, _, _]) rfl rfl ag_58 sz_58 (by repeat constructor) (by rfl)) ?_
    refine JL_op (wn0 rfl) (ow_sliceC (vs := [_, _, _, _, _, _, _, _]) (ty := 58) rfl rfl (by rfl) rfl rfl (fun _ => by kernel_rfl)) (fun b53 hb53 => ?_)
    refine JL_opS (wn0 rfl) (ow_app1 EW (by decide) (plc (refRow l) (tblG (refRow l) ((ordF l T).take k)).length (t : Nat)) Try.underlying45 Try.info58 rfl (by decide) rfl rfl rfl rfl rfl (by repeat constructor) (by rfl) (by omega) (by intro A c; repeat constructor)) (fun A54 c54 => ?_)
    refine JN rfl rfl rfl rfl rfl ?_
    refine JL_nil ?_
    refine JQ_block_n ?_
    refine JQ_then_n ?_
    refine J_keep (l' := [(1, _), (7, _), (8, _), (9, _), (10, _), (11, _)]) ⟨rfl, rfl, rfl, rfl, rfl, rfl, trivial⟩ ?_
    refine J_reg ?_
    refine JM rfl rfl rfl rfl rfl ?_
    refine JP (rp2 rfl rfl (fun ρ hx hy w => ex_add rfl hx hy (by omega))) ?_
    refine JN rfl rfl rfl rfl rfl ?_
    refine JL_nil ?_
    exact JQ_round (j + 1, A54, c54) (by dsimp only; omega) (by dsimp only; omega) ⟨rfl, rfl, (by rw [hsj]; rfl), rfl, rfl, (congrArg some (by go_num)), trivial⟩ (by (try dsimp only); rw [hsj]; repeat (first | exact Pk.nil _ | (refine Pk.pick (by repeat (first | exact Rm.here _ | apply Rm.there)) ?_)))
   ·refine JL_nil ?_
    refine JQ_then_n ?_
    refine J_no rfl rfl ?_
    refine J_exit ?_
    refine JQ_then_x ?_
    refine JQ_then_x ?_
    refine JQ_block_y rfl ?_
    refine JQ_block_n ?_
    refine JQ_then_n ?_
    obtain rfl : j = pl.length := by omega
    refine J_keep (l' := [(1, _), (7, _), (8, _), (9, _)]) ⟨rfl, rfl, rfl, rfl, trivial⟩ ?_
    refine J_reg ?_
    refine JM rfl rfl rfl rfl rfl ?_
    refine JP (rp2 rfl rfl (fun ρ hx hy w => ex_add rfl hx hy (by omega))) ?_
    refine JN rfl rfl rfl rfl rfl ?_
    refine JL_nil ?_
    exact JQ_round (k + 1, A8, c8) (by dsimp only; omega) (by dsimp only; omega) ⟨rfl, rfl, (by rw [hsn]; rfl), (congrArg some (by go_num)), trivial⟩ (by (try dsimp only); rw [hsn]; repeat (first | exact Pk.nil _ | (refine Pk.pick (by repeat (first | exact Rm.here _ | apply Rm.there)) ?_)))
  ·refine JL_nil ?_
   refine JQ_then_n ?_
   refine J_no rfl rfl ?_
   refine J_exit ?_
   refine JQ_then_x ?_
   refine JQ_then_x ?_
   refine JQ_block_y rfl ?_
   refine JQ_then_n ?_
   refine J_seq ?_
   refine J_keep (l' := [(8, _)]) ⟨rfl, trivial⟩ ?_
   refine J_reg ?_
   refine JM rfl rfl rfl rfl rfl ?_
   refine JN rfl rfl rfl rfl rfl ?_
   refine JN rfl rfl rfl rfl rfl ?_
   refine JL_nil ?_
   refine JQ_then_n ?_
   refine J_ret ?_
   refine JR_two rfl (rr_tmp rfl) (rr_tmp rfl) ?_
   intro w' hw
   have ek : k = (ordF l T).length := by rw [← hD21, List.length_map]; omega
   have e : tblR (T : Nat) l = tblG (refRow l) ((ordF l T).take k) := by unfold tblR; rw [if_pos hc0, Int.toNat_natCast, ek, List.take_length]
   rw [e, hc0]
   exact ⟨A8, c8, rfl, hw.pick (by repeat constructor)⟩
theorem prS_drop (pz : List Int) : ∀ (D : List (List Int)) (k : Nat), k ≤ D.length → (prS pz (D.take k)).1 = pz.drop (D.take k).flatten.length
 | D, 0, _ => by simp [prS]
 | D, k + 1, h => by
  rw [prS_snoc pz D k h, prS_drop pz D k (by omega), List.take_succ_eq_append_getElem h, List.drop_drop]; simp only [List.flatten_append, List.length_append, List.flatten_cons, List.flatten_nil, List.append_nil]
theorem flatk_snoc {D : List (List Int)} (k : Nat) (h : k < D.length) : (D.take (k + 1)).flatten.length = (D.take k).flatten.length + (D[k]'h).length := by
 rw [List.take_succ_eq_append_getElem h]; simp only [List.flatten_append, List.length_append, List.flatten_cons, List.flatten_nil, List.append_nil]
theorem przE_ok {T : Int} {l : List Re} {pz : List Int} (hc : chkE T l = 0) (hn : pz.length ≤ 16) (hp : ∀ x ∈ pz, 0 ≤ x ∧ x ≤ 1000000) : przE T l pz = 0 := by
 unfold przE; rw [if_neg (by omega), if_neg (by omega), if_neg]
 rw [List.any_eq_true]; rintro ⟨x, hx, h⟩
 simp [hp x hx] at h
theorem przE_bad {T : Int} {l : List Re} {pz : List Int} (hc : chkE T l = 0) (hn : pz.length ≤ 16) {x : Int} (hx : x ∈ pz) (hp : ¬ (0 ≤ x ∧ x ≤ 1000000)) : przE T l pz = 4 := by
 unfold przE; rw [if_neg (by omega), if_neg (by omega), if_pos]
 rw [List.any_eq_true]; exact ⟨x, hx, by rw [decide_eq_false hp]; rfl⟩
set_option maxRecDepth 100000 in
set_option maxHeartbeats 4000000 in
theorem Prizes28 (T : Int) (l : List Re) (pz : List Int) (v u : Value) (w : World) (hrow : Arr 6 eR w v l) (hpz : Arr 1 eI w u pz) (hperm : OrdOk T l) : Calls Try.prog 28 #[.int .i64 T, v, u] w (RetSE 42 2 eP (przR T l pz) (przE T l pz) w) := by
 obtain ⟨A, cap, rfl⟩ := hrow.form
 obtain ⟨A2, cap2, rfl⟩ := hpz.form
 obtain ⟨A2q, c2q, e2q, hc2, hc3, hA2m⟩ := hpz
 injection e2q with e3 e4 e5
 subst e3 e5
 have hpz : Arr 1 eI w (.slice A2 pz.length cap2) pz := ⟨A2, cap2, rfl, hc2, hc3, hA2m⟩
 refine J_enter (fun _ => False) (vs := [.int .i64 T, .slice A l.length cap, .slice A2 pz.length cap2]) (k := 102) (l := [(0, .int .i64 T), (1, .slice A l.length cap), (2, .slice A2 pz.length cap2)]) Try.func28 rfl rfl Try.ntmps28 rfl rfl (Wd.start _) ?_
 refine J_seq ?_
 refine J_reg ?_
 refine JN rfl rfl rfl rfl rfl ?_
 refine JN rfl rfl rfl rfl rfl ?_
 refine JL_nil ?_
 refine JQ_then_n ?_
 refine J_seq ?_
 refine J_reg ?_
 refine JM rfl rfl rfl rfl rfl ?_
 refine JM rfl rfl rfl rfl rfl ?_
 refine JL_op (wn0 rfl) (ow_callB (ec_fn rfl rfl cf_30) rfl rfl (fun w hw => Check30 T l _ w (hrow.up ER hw.bel))) (fun _ _ => ?_)
 refine JN rfl rfl rfl rfl rfl ?_
 refine JL_nil ?_
 refine JQ_then_n ?_
 refine J_seq ?_
 refine J_seq ?_
 refine J_keep (l' := [(0, _), (1, _), (2, _), (8, _)]) ⟨rfl, rfl, rfl, rfl, trivial⟩ ?_
 refine J_reg ?_
 refine JM rfl rfl rfl rfl rfl ?_
 refine JP (rp2 rfl rfl (fun ρ hx hy w => ex_neq29 rfl hx hy)) ?_
 refine JL_dec (fun h21 => ?_) (fun h21 => ?_)
 ·refine JL_nil ?_
  refine JQ_then_n ?_
  refine J_yes rfl rfl ?_
  refine J_seq ?_
  refine J_keep (l' := [(8, _)]) ⟨rfl, trivial⟩ ?_
  refine J_reg ?_
  refine JM rfl rfl rfl rfl rfl ?_
  refine JN rfl rfl rfl rfl rfl ?_
  refine JN rfl rfl rfl rfl rfl ?_
  refine JL_nil ?_
  refine JQ_then_n ?_
  refine J_ret ?_
  refine JQ_then_r ?_
  refine JR_two rfl (rr_tmp rfl) (rr_tmp rfl) ?_
  intro w' hw
  have e : przE T l pz = chkE T l := by unfold przE; rw [if_pos (by omega)]
  have e2 : przR T l pz = [] := by unfold przR; rw [if_neg (by rw [e]; omega)]
  rw [e, e2]
  exact ⟨none, 0, rfl, (hw.own0 42 2).pick (by repeat constructor)⟩
 ·refine JL_nil ?_
  refine JQ_then_n ?_
  refine J_no rfl rfl ?_
  refine J_skip ?_
  refine JQ_then_n ?_
  refine J_seq ?_
  refine J_seq ?_
  refine J_reg ?_
  refine JM rfl rfl rfl rfl rfl ?_
  refine JP (rp1 rfl (fun ρ hx w => ex_len (A := _) (c := _) rfl Try.underlying26 hx)) ?_
  refine JP (rp2 rfl rfl (fun ρ hx hy w => ex_gtrD rfl hx hy)) ?_
  refine JL_dec (fun h25 => ?_) (fun h25 => ?_)
  ·refine JL_nil ?_
   refine JQ_then_n ?_
   refine J_yes rfl rfl ?_
   refine J_seq ?_
   refine J_keep (l' := []) trivial ?_
   refine J_reg ?_
   refine JN rfl rfl rfl rfl rfl ?_
   refine JN rfl rfl rfl rfl rfl ?_
   refine JL_nil ?_
   refine JQ_then_n ?_
   refine J_ret ?_
   refine JQ_then_r ?_
   refine JR_two rfl (rr_tmp rfl) (rr_tmp rfl) ?_
   intro w' hw
   have e : przE T l pz = 3 := by unfold przE; rw [if_neg (by omega), if_pos (by omega)]
   have e2 : przR T l pz = [] := by unfold przR; rw [if_neg (by rw [e]; omega)]
   rw [e, e2]
   exact ⟨none, 0, rfl, (hw.own0 42 2).pick (by repeat constructor)⟩
  ·refine JL_nil ?_
   refine JQ_then_n ?_
   refine J_no rfl rfl ?_
   refine J_skip ?_
   refine JQ_then_n ?_
   refine J_seq ?_
   refine J_seq ?_
   have hc0 : chkE T l = 0 := by omega
   refine J_keep (l' := [(0, _), (1, _), (2, _)]) ⟨rfl, rfl, rfl, trivial⟩ ?_
   refine J_reg ?_
   refine JN rfl rfl rfl rfl rfl ?_
   refine JL_nil ?_
   refine JQ_then_n ?_
   refine J_block ?_
   refine J_loop (T := Nat) (fun k => k ≤ pz.length ∧ ∀ x ∈ pz.take k, 0 ≤ x ∧ x ≤ 1000000) (fun k => [(0, .int .i64 T), (1, .slice A l.length cap), (2, .slice A2 pz.length cap2), (9, .int .i64 (k : Nat))]) (fun k => []) (fun k => pz.length - k) 0 ⟨Nat.zero_le _, by simp⟩ ⟨rfl, rfl, rfl, rfl, trivial⟩ (by repeat constructor) ?_
   rintro k ⟨hk, hne⟩
   refine J_seq ?_
   refine J_seq ?_
   refine J_reg ?_
   refine JM rfl rfl rfl rfl rfl ?_
   refine JM rfl rfl rfl rfl rfl ?_
   refine JP (rp1 rfl (fun ρ hx w => ex_len (A := _) (c := _) rfl Try.underlying26 hx)) ?_
   refine JP (rp2 rfl rfl (fun ρ hx hy w => ex_lssD rfl hx hy)) ?_
   refine JL_dec (fun h29 => ?_) (fun h29 => ?_)
   ·refine JL_nil ?_
    refine JQ_then_n ?_
    refine J_yes rfl rfl ?_
    refine J_skip ?_
    refine JQ_then_n ?_
    refine J_seq ?_
    refine J_block ?_
    refine J_seq ?_
    have hlt : k < pz.length := by omega
    obtain ⟨b2, o2, rfl, hh⟩ := hA2m (by intro e; subst e; simp at hlt)
    refine J_keep (l' := [(0, _), (1, _), (2, _), (9, _)]) ⟨rfl, rfl, rfl, rfl, trivial⟩ ?_
    refine J_reg ?_
    refine JM rfl rfl rfl rfl rfl ?_
    refine JM rfl rfl rfl rfl rfl ?_
    refine JP (rp2 rfl rfl (fun ρ hx hy w => ex_indexE rfl hx hy Try.underlying26 sz_3 (by omega))) ?_
    refine JV (rv_hold rfl rfl ag_3 (fun h => h) hh (by omega) (by omega) rfl) ?_
    refine JL_op (wn0 rfl) (ow_callP (ec_fn rfl rfl cf_52) rfl rfl (fun w hw => in52 _ 0 1000000 w)) (fun _ _ => ?_)
    refine JL_bool (fun h36 => ?_) (fun h36 => ?_)
    ·refine JP (rp1 rfl (fun ρ hx w => ex_not rfl hx)) ?_
     refine JL_nil ?_
     refine JQ_then_n ?_
     refine J_no rfl rfl ?_
     refine J_skip ?_
     refine JQ_block_n ?_
     refine JQ_then_n ?_
     refine J_keep (l' := [(0, _), (1, _), (2, _), (9, _)]) ⟨rfl, rfl, rfl, rfl, trivial⟩ ?_
     refine J_reg ?_
     refine JM rfl rfl rfl rfl rfl ?_
     refine JP (rp2 rfl rfl (fun ρ hx hy w => ex_add rfl hx hy (by omega))) ?_
     refine JN rfl rfl rfl rfl rfl ?_
     refine JL_nil ?_
     have hsn : ∀ x ∈ pz.take (k + 1), 0 ≤ x ∧ x ≤ 1000000 := by
      rw [List.take_succ_eq_append_getElem hlt]
      intro x hx
      rcases List.mem_append.1 hx with hx | hx
      ·exact hne x hx
      ·rw [List.mem_singleton.1 hx]; exact of_decide_eq_true h36
     exact JQ_round (k + 1) ⟨by omega, hsn⟩ (by omega) ⟨rfl, rfl, rfl, (congrArg some (by go_num)), trivial⟩ (by repeat constructor)
    ·refine JP (rp1 rfl (fun ρ hx w => ex_not rfl hx)) ?_
     refine JL_nil ?_
     refine JQ_then_n ?_
     refine J_yes rfl rfl ?_
     refine J_seq ?_
     refine J_keep (l' := []) trivial ?_
     refine J_reg ?_
     refine JN rfl rfl rfl rfl rfl ?_
     refine JN rfl rfl rfl rfl rfl ?_
     refine JL_nil ?_
     refine JQ_then_n ?_
     refine J_ret ?_
     refine JQ_block_r ?_
     refine JQ_then_r ?_
     refine JQ_then_r ?_
     refine JQ_block_r ?_
     refine JQ_then_r ?_
     refine JR_two rfl (rr_tmp rfl) (rr_tmp rfl) ?_
     intro w' hw
     have e : przE T l pz = 4 := by exact przE_bad hc0 (by omega) (List.getElem_mem hlt) (of_decide_eq_false h36)
     have e2 : przR T l pz = [] := by unfold przR; rw [if_neg (by rw [e]; omega)]
     rw [e, e2]
     exact ⟨none, 0, rfl, (hw.own0 42 2).pick (by repeat constructor)⟩
   ·refine JL_nil ?_
    refine JQ_then_n ?_
    refine J_no rfl rfl ?_
    refine J_exit ?_
    refine JQ_then_x ?_
    refine JQ_then_x ?_
    refine JQ_block_y rfl ?_
    refine JQ_then_n ?_
    refine J_seq ?_
    obtain rfl : k = pz.length := by omega
    rw [List.take_length] at hne
    have hpr := hne
    have hE0 : przE T l pz = 0 := przE_ok hc0 (by omega) hpr
    obtain ⟨hT, hl, hvb⟩ := chk_ok hc0
    have hv : ∀ x ∈ l, ReB x := fun x hx => (vld_b (hvb x hx)).1
    obtain ⟨T, rfl⟩ := Int.eq_ofNat_of_zero_le (show 0 ≤ T by omega)
    replace hperm : (ordF l T).flatten.Perm (allT T) := hperm hc0
    refine J_keep (l' := [(0, _), (1, _), (2, _)]) ⟨rfl, rfl, rfl, trivial⟩ ?_
    refine J_reg ?_
    refine JM rfl rfl rfl rfl rfl ?_
    refine JM rfl rfl rfl rfl rfl ?_
    refine JL_op (wn0 rfl) (ow_callD (ec_fn rfl rfl cf_65) rfl rfl (fun _ => noOB) (fun w hw => Order65 l T _ w (hrow.up ER hw.bel) hl (by omega) hv)) (fun t40 ht40 => ?_)
    obtain ⟨A40, c40, D40⟩ := t40
    obtain ⟨hD40, hN40⟩ := ht40
    dsimp only at hD40 hN40 ⊢
    refine JN rfl rfl rfl rfl rfl ?_
    refine JL_nil ?_
    refine JQ_then_n ?_
    refine J_seq ?_
    refine J_keep (l' := [(0, _), (2, _), (10, _)]) ⟨rfl, rfl, rfl, trivial⟩ ?_
    refine J_reg ?_
    refine JM rfl rfl rfl rfl rfl ?_
    refine JL_op (wn0 rfl) (ow_make EP (0, 0) Try.underlying41 Try.info42 rfl (by decide) (by decide) rfl rfl rfl rfl rfl (by omega)) (fun b42 hb42 => ?_)
    refine JN rfl rfl rfl rfl rfl ?_
    refine JL_nil ?_
    refine JQ_then_n ?_
    refine J_seq ?_
    rw [tabS_const]
    refine J_reg ?_
    refine JN rfl rfl rfl rfl rfl ?_
    refine JL_nil ?_
    refine JQ_then_n ?_
    refine J_seq ?_
    refine J_seq ?_
    refine J_reg ?_
    refine JN rfl rfl rfl rfl rfl ?_
    refine JL_nil ?_
    refine JQ_then_n ?_
    refine J_block ?_
    refine J_loop (T := Nat) (fun q => q ≤ D40.length) (fun q => [(2, .slice A2 pz.length cap2), (10, .slice A40 D40.length c40), (11, .slice (some ⟨b42, 0, none⟩) T T), (12, .int .i64 (((ordF l T).take q).flatten.length : Nat)), (13, .int .i64 (q : Nat))]) (fun q => [ownB 42 2 (some ⟨b42, 0, none⟩) T T ((tabS T ((prS pz ((ordF l T).take q)).2)).flatMap eP), ownB 26 1 A40 D40.length c40 (D40.flatMap eD), slsB 1 eI D40]) (fun q => D40.length - q) 0 (Nat.zero_le _) ⟨rfl, rfl, rfl, rfl, rfl, trivial⟩ (by repeat constructor) ?_
    rintro k hk
    refine J_seq ?_
    refine J_seq ?_
    refine J_reg ?_
    refine JM rfl rfl rfl rfl rfl ?_
    refine JM rfl rfl rfl rfl rfl ?_
    refine JP (rp1 rfl (fun ρ hx w => ex_len (A := _) (c := _) rfl Try.underlying113 hx)) ?_
    refine JP (rp2 rfl rfl (fun ρ hx hy w => ex_lssD rfl hx hy)) ?_
    refine JL_dec (fun h46 => ?_) (fun h46 => ?_)
    ·refine JL_nil ?_
     refine JQ_then_n ?_
     refine J_yes rfl rfl ?_
     refine J_skip ?_
     refine JQ_then_n ?_
     refine J_seq ?_
     refine J_block ?_
     refine J_seq ?_
     have hlt : k < D40.length := by omega
     refine J_fact (fun hf => ?_)
     obtain ⟨b40, rfl⟩ := own_some (A := A40) hf (by repeat constructor) (by omega)
     have hcp : D40.length ≤ maxLen := Nat.le_trans (own_cap (A := some ⟨b40, 0, none⟩) (m := D40.length) hf (by repeat constructor)).1 (own_cap (A := some ⟨b40, 0, none⟩) (m := D40.length) hf (by repeat constructor)).2
     unfold maxLen at hcp
     obtain ⟨p, hp⟩ : ∃ p, D40[k]'hlt = p := ⟨_, rfl⟩
     have hpm : p ∈ D40 := by rw [← hp]; exact List.getElem_mem _
     obtain ⟨hpn, hpc, -, hpA⟩ := sls_len (D := D40) (p := p) hf (by repeat constructor) hpm
     have hkb : k < (ordF l T).length := by rw [← hD40, List.length_map]; exact hlt
     have hgk : (ordF l T)[k]'hkb = p.l := by
      have : (D40.map Dv.l)[k]'(by rw [List.length_map]; exact hlt) = p.l := by rw [List.getElem_map, hp]
      simpa only [hD40] using this
     have hsn := prS_snoc pz (ordF l T) k hkb
     have hnk := flatk_snoc k hkb
     have hfk := flatk_len k hkb
     have hpf := hperm.length_eq
     have hpin : ∀ x ∈ p.l, 0 ≤ x ∧ x < T := fun x hx => allT_in (hperm.mem_iff.1 (List.mem_flatten.2 ⟨_, by rw [← hgk]; exact List.getElem_mem _, hx⟩))
     rw [hgk] at hsn hfk
     rw [allT_len] at hpf
     rw [hgk] at hnk
     obtain ⟨pA, pn, pc, pl⟩ := p
     dsimp only at hpn hpc hgk hsn hfk hpin hpA hnk
     subst hpn
     have hdr := prS_drop pz (ordF l T) k (by omega)
     have hsb : ∀ j, 0 ≤ ((pz.drop (((ordF l T).take k).flatten.length)).take j).sum ∧ ((pz.drop (((ordF l T).take k).flatten.length)).take j).sum ≤ 16000000 := fun j => by
      have := sum_bd ((pz.drop (((ordF l T).take k).flatten.length)).take j) (fun x hx => hpr x (List.mem_of_mem_drop (List.mem_of_mem_take hx)))
      rw [List.length_take, List.length_drop] at this; omega
     have hsn2 : (prS pz ((ordF l T).take (k + 1))).2 = fillS (prS pz ((ordF l T).take k)).2 pl (shr ((pz.drop (((ordF l T).take k).flatten.length)).take pl.length).sum pl.length) := by rw [hsn, hdr]
     refine J_keep (l' := [(2, _), (10, _), (11, _), (12, _), (13, _)]) ⟨rfl, rfl, rfl, rfl, rfl, trivial⟩ ?_
     refine J_reg ?_
     refine JN rfl rfl rfl rfl rfl ?_
     refine JL_nil ?_
     refine JQ_then_n ?_
     refine J_seq ?_
     refine J_seq ?_
     refine J_reg ?_
     refine JN rfl rfl rfl rfl rfl ?_
     refine JL_nil ?_
     refine JQ_then_n ?_
     refine J_block ?_
     refine J_loop (T := Nat) (fun j => j ≤ pl.length) (fun j => [(2, .slice A2 pz.length cap2), (10, .slice (some ⟨b40, 0, none⟩) D40.length c40), (11, .slice (some ⟨b42, 0, none⟩) T T), (12, .int .i64 (((ordF l T).take k).flatten.length : Nat)), (13, .int .i64 (k : Nat)), (14, .int .i64 ((pz.drop (((ordF l T).take k).flatten.length)).take j).sum), (15, .int .i64 (j : Nat))]) (fun j => [ownB 42 2 (some ⟨b42, 0, none⟩) T T ((tabS T ((prS pz ((ordF l T).take k)).2)).flatMap eP), ownB 26 1 (some ⟨b40, 0, none⟩) D40.length c40 (D40.flatMap eD), slsB 1 eI D40]) (fun j => pl.length - j) 0 (Nat.zero_le _) ⟨rfl, rfl, rfl, rfl, rfl, rfl, rfl, trivial⟩ (by repeat constructor) ?_
     rintro j hj
     refine J_seq ?_
     refine J_seq ?_
     refine J_reg ?_
     refine JM rfl rfl rfl rfl rfl ?_
     refine JM rfl rfl rfl rfl rfl ?_
     refine JM rfl rfl rfl rfl rfl ?_
     refine JP (rp2 rfl rfl (fun ρ hx hy w => ex_indexE rfl hx hy Try.underlying113 sz_26 (by omega))) ?_
     refine JV (rv_ownE (L := D40) (v := .slice _ pl.length pc) ED rfl rfl ag_26 (by repeat constructor) (by omega) (by omega) (by rw [hp]; rfl)) ?_
     refine JP (rp1 rfl (fun ρ hx w => ex_len (A := _) (c := _) rfl Try.underlying26 hx)) ?_
     refine JP (rp2 rfl rfl (fun ρ hx hy w => ex_lssD rfl hx hy)) ?_
     refine JL_dec (fun h55 => ?_) (fun h55 => ?_)
     ·refine JL_nil ?_
      refine JQ_then_n ?_
      refine J_yes rfl rfl ?_
      refine J_skip ?_
      refine JQ_then_n ?_
      refine J_seq ?_
      refine J_block ?_
      refine J_seq ?_
      have hlj : j < pl.length := by omega
      have hs1 := hsb j
      have hsj : ∀ h : ((ordF l T).take k).flatten.length + j < pz.length, ((pz.drop (((ordF l T).take k).flatten.length)).take (j + 1)).sum = ((pz.drop (((ordF l T).take k).flatten.length)).take j).sum + pz[((ordF l T).take k).flatten.length + j]'h := fun h => by
       rw [sum_snoc _ j (by rw [List.length_drop]; omega), List.getElem_drop]
      have hsj' : ¬ (((((ordF l T).take k).flatten.length : Nat) : Int) + (j : Nat) < (pz.length : Nat)) → ((pz.drop (((ordF l T).take k).flatten.length)).take (j + 1)).sum = ((pz.drop (((ordF l T).take k).flatten.length)).take j).sum := fun h => by
       rw [List.take_of_length_le (l := (pz.drop (((ordF l T).take k).flatten.length))) (i := j + 1) (by rw [List.length_drop]; omega), List.take_of_length_le (l := (pz.drop (((ordF l T).take k).flatten.length))) (i := j) (by rw [List.length_drop]; omega)]
      refine J_keep (l' := [(2, _), (10, _), (11, _), (12, _), (13, _), (14, _), (15, _)]) ⟨rfl, rfl, rfl, rfl, rfl, rfl, rfl, trivial⟩ ?_
      refine J_reg ?_
      refine JM rfl rfl rfl rfl rfl ?_
      refine JM rfl rfl rfl rfl rfl ?_
      refine JP (rp2 rfl rfl (fun ρ hx hy w => ex_add rfl hx hy (by omega))) ?_
      refine JM rfl rfl rfl rfl rfl ?_
      refine JP (rp1 rfl (fun ρ hx w => ex_len (A := _) (c := _) rfl Try.underlying26 hx)) ?_
      refine JP (rp2 rfl rfl (fun ρ hx hy w => ex_lssD rfl hx hy)) ?_
      refine JL_dec (fun h63 => ?_) (fun h63 => ?_)
      ·refine JL_nil ?_
       refine JQ_then_n ?_
       refine J_yes rfl rfl ?_
       have hlz : ((ordF l T).take k).flatten.length + j < pz.length := by omega
       obtain ⟨b2, o2, rfl, hh⟩ := hA2m (by intro e; subst e; simp at hlz)
       have hs2 := hpr _ (List.getElem_mem hlz)
       refine J_keep (l' := [(2, _), (10, _), (11, _), (12, _), (13, _), (14, _), (15, _)]) ⟨rfl, rfl, rfl, rfl, rfl, rfl, rfl, trivial⟩ ?_
       refine J_reg ?_
       refine JM rfl rfl rfl rfl rfl ?_
       refine JM rfl rfl rfl rfl rfl ?_
       refine JM rfl rfl rfl rfl rfl ?_
       refine JM rfl rfl rfl rfl rfl ?_
       refine JP (rp2 rfl rfl (fun ρ hx hy w => ex_add rfl hx hy (by omega))) ?_
       refine JP (rp2 rfl rfl (fun ρ hx hy w => ex_indexE rfl hx hy Try.underlying26 sz_3 (by omega))) ?_
       refine JV (rv_hold rfl rfl ag_3 (fun h => h) hh (by omega) (by omega) rfl) ?_
       refine JP (rp2 rfl rfl (fun ρ hx hy w => ex_add rfl hx hy (by omega))) ?_
       refine JN rfl rfl rfl rfl rfl ?_
       refine JL_nil ?_
       refine JQ_block_n ?_
       refine JQ_then_n ?_
       refine J_keep (l' := [(2, _), (10, _), (11, _), (12, _), (13, _), (14, _), (15, _)]) ⟨rfl, rfl, rfl, rfl, rfl, rfl, rfl, trivial⟩ ?_
       refine J_reg ?_
       refine JM rfl rfl rfl rfl rfl ?_
       refine JP (rp2 rfl rfl (fun ρ hx hy w => ex_add rfl hx hy (by omega))) ?_
       refine JN rfl rfl rfl rfl rfl ?_
       refine JL_nil ?_
       exact JQ_round (j + 1) (by omega) (by omega) ⟨rfl, rfl, rfl, rfl, rfl, (by rw [hsj hlz]; rfl), (congrArg some (by go_num)), trivial⟩ (by repeat constructor)
      ·refine JL_nil ?_
       refine JQ_then_n ?_
       refine J_no rfl rfl ?_
       refine J_skip ?_
       refine JQ_block_n ?_
       refine JQ_then_n ?_
       refine J_keep (l' := [(2, _), (10, _), (11, _), (12, _), (13, _), (14, _), (15, _)]) ⟨rfl, rfl, rfl, rfl, rfl, rfl, rfl, trivial⟩ ?_
       refine J_reg ?_
       refine JM rfl rfl rfl rfl rfl ?_
       refine JP (rp2 rfl rfl (fun ρ hx hy w => ex_add rfl hx hy (by omega))) ?_
       refine JN rfl rfl rfl rfl rfl ?_
       refine JL_nil ?_
       exact JQ_round (j + 1) (by omega) (by omega) ⟨rfl, rfl, rfl, rfl, rfl, (by rw [hsj' h63]; rfl), (congrArg some (by go_num)), trivial⟩ (by repeat constructor)
     ·refine JL_nil ?_
      refine JQ_then_n ?_
      refine J_no rfl rfl ?_
      refine J_exit ?_
      refine JQ_then_x ?_
      refine JQ_then_x ?_
      refine JQ_block_y rfl ?_
      refine JQ_then_n ?_
      refine J_seq ?_
      refine J_seq ?_
      obtain rfl : j = pl.length := by omega
      refine J_keep (l' := [(2, _), (10, _), (11, _), (12, _), (13, _), (14, _)]) ⟨rfl, rfl, rfl, rfl, rfl, rfl, trivial⟩ ?_
      refine J_reg ?_
      refine JN rfl rfl rfl rfl rfl ?_
      refine JL_nil ?_
      refine JQ_then_n ?_
      refine J_block ?_
      refine J_loop (T := Nat) (fun j => j ≤ pl.length) (fun j => [(2, .slice A2 pz.length cap2), (10, .slice (some ⟨b40, 0, none⟩) D40.length c40), (11, .slice (some ⟨b42, 0, none⟩) T T), (12, .int .i64 (((ordF l T).take k).flatten.length : Nat)), (13, .int .i64 (k : Nat)), (14, .int .i64 ((pz.drop (((ordF l T).take k).flatten.length)).take pl.length).sum), (16, .int .i64 (j : Nat))]) (fun j => [ownB 42 2 (some ⟨b42, 0, none⟩) T T ((tabS T (fillS (prS pz ((ordF l T).take k)).2 (pl.take j) (shr ((pz.drop (((ordF l T).take k).flatten.length)).take pl.length).sum pl.length))).flatMap eP), ownB 26 1 (some ⟨b40, 0, none⟩) D40.length c40 (D40.flatMap eD), slsB 1 eI D40]) (fun j => pl.length - j) 0 (Nat.zero_le _) ⟨rfl, rfl, rfl, rfl, rfl, rfl, rfl, trivial⟩ (by repeat constructor) ?_
      rintro j hj
      refine J_seq ?_
      refine J_seq ?_
      refine J_reg ?_
      refine JM rfl rfl rfl rfl rfl ?_
      refine JM rfl rfl rfl rfl rfl ?_
      refine JM rfl rfl rfl rfl rfl ?_
      refine JP (rp2 rfl rfl (fun ρ hx hy w => ex_indexE rfl hx hy Try.underlying113 sz_26 (by omega))) ?_
      refine JV (rv_ownE (L := D40) (v := .slice _ pl.length pc) ED rfl rfl ag_26 (by repeat constructor) (by omega) (by omega) (by rw [hp]; rfl)) ?_
      refine JP (rp1 rfl (fun ρ hx w => ex_len (A := _) (c := _) rfl Try.underlying26 hx)) ?_
      refine JP (rp2 rfl rfl (fun ρ hx hy w => ex_lssD rfl hx hy)) ?_
      refine JL_dec (fun h78 => ?_) (fun h78 => ?_)
      ·refine JL_nil ?_
       refine JQ_then_n ?_
       refine J_yes rfl rfl ?_
       refine J_skip ?_
       refine JQ_then_n ?_
       refine J_seq ?_
       refine J_block ?_
       have hlj : j < pl.length := by omega
       obtain ⟨pb, po, rfl⟩ := hpA (by intro e; subst e; simp at hlj)
       obtain ⟨t, ht⟩ := Int.eq_ofNat_of_zero_le (hpin _ (List.getElem_mem hlj)).1
       have htT := (hpin _ (List.getElem_mem hlj)).2
       rw [ht] at htT
       have hs1 := hsb pl.length
       have hset := tabS_set T (fillS (prS pz ((ordF l T).take k)).2 (pl.take j) (shr ((pz.drop (((ordF l T).take k).flatten.length)).take pl.length).sum pl.length)) (fillS (prS pz ((ordF l T).take k)).2 (pl.take (j + 1)) (shr ((pz.drop (((ordF l T).take k).flatten.length)).take pl.length).sum pl.length)) t (shr ((pz.drop (((ordF l T).take k).flatten.length)).take pl.length).sum pl.length) (fun i hi => by
        unfold fillS
        rw [List.take_succ_eq_append_getElem hlj, ht]
        by_cases e : i = t
        ·subst e; simp
        ·have : ¬ (i : Int) = (t : Int) := by omega
         simp [e, this])
       refine J_keep (l' := [(2, _), (10, _), (11, _), (12, _), (13, _), (14, _), (16, _)]) ⟨rfl, rfl, rfl, rfl, rfl, rfl, rfl, trivial⟩ ?_
       refine J_draw [4, 7, 12] (by kernel_rfl) ?_
       refine JAP (i := 0) rfl (rp_move rfl rfl) ?_
       refine JAP (i := 1) rfl (rp_move rfl rfl) ?_
       refine JAP (i := 2) rfl (rp_move rfl rfl) ?_
       refine JAP (i := 3) rfl (rp2 rfl rfl (fun ρ hx hy w => ex_indexE rfl hx hy Try.underlying113 sz_26 (by omega))) ?_
       refine JAL (i := 4) rfl (rv_ownE (L := D40) (v := .slice _ pl.length pc) ED rfl rfl ag_26 (by repeat constructor) (by omega) (by omega) (by rw [hp]; rfl)) ?_
       refine JAP (i := 5) rfl (rp_move rfl rfl) ?_
       refine JAP (i := 6) rfl (rp2 rfl rfl (fun ρ hx hy w => ex_indexE rfl hx hy Try.underlying26 sz_3 (by omega))) ?_
       refine JAL (i := 7) rfl (rv_sls (D := D40) ⟨some ⟨pb, po, none⟩, pl.length, pc, pl⟩ rfl rfl ag_3 (by repeat constructor) hpm rfl (by dsimp only; omega) (by omega) (by dsimp only; rw [ht]; rfl)) ?_
       refine JAP (i := 8) rfl (rp_move rfl rfl) ?_
       refine JAP (i := 9) rfl (rp_move rfl rfl) ?_
       refine JAP (i := 10) rfl (rp_move rfl rfl) ?_
       refine JAP (i := 11) rfl (rp2 rfl rfl (fun ρ hx hy w => ex_indexE rfl hx hy Try.underlying113 sz_26 (by omega))) ?_
       refine JAL (i := 12) rfl (rv_ownE (L := D40) (v := .slice _ pl.length pc) ED rfl rfl ag_26 (by repeat constructor) (by omega) (by omega) (by rw [hp]; rfl)) ?_
       refine JAP (i := 13) rfl (rp1 rfl (fun ρ hx w => ex_len (A := _) (c := _) rfl Try.underlying26 hx)) ?_
       refine JA_one (i := 14) (by kernel_rfl) rfl (wn0 rfl) (ow_callB (ec_fn rfl rfl cf_33) rfl rfl (fun w hw => Lowest33 ((pz.drop (((ordF l T).take k).flatten.length)).take pl.length).sum pl.length w ⟨by omega, by omega⟩ ⟨by omega, by omega⟩)) trivial (fun _ _ => ?_)
       refine JAP (i := 15) rfl (rp2 rfl rfl (fun ρ hx hy w => ex_indexI (k := t) rfl hx hy rfl Try.underlying41 sz_42 (by omega))) ?_
       refine JA_one (i := 16) (by kernel_rfl) rfl (wn0 rfl) (ow_storeE (cs := [_, _]) EP (shr ((pz.drop (((ordF l T).take k).flatten.length)).take pl.length).sum pl.length) rfl rfl rfl rfl rfl sz_42 rfl (by repeat constructor) (by rw [tabS_len]; omega) (Nat.le_of_ble_eq_true rfl) rfl) ⟨by kernel_rfl, .inl (by kernel_rfl)⟩ (fun _ _ => ?_)
       refine JA_done (by kernel_rfl) ?_
       refine JQ_block_n ?_
       refine JQ_then_n ?_
       refine J_keep (l' := [(2, _), (10, _), (11, _), (12, _), (13, _), (14, _), (16, _)]) ⟨rfl, rfl, rfl, rfl, rfl, rfl, rfl, trivial⟩ ?_
       refine J_reg ?_
       refine JM rfl rfl rfl rfl rfl ?_
       refine JP (rp2 rfl rfl (fun ρ hx hy w => ex_add rfl hx hy (by omega))) ?_
       refine JN rfl rfl rfl rfl rfl ?_
       refine JL_nil ?_
       exact JQ_round (j + 1) (by omega) (by omega) ⟨rfl, rfl, rfl, rfl, rfl, rfl, (congrArg some (by go_num)), trivial⟩ (by (try dsimp only); rw [← hset]; repeat (first | exact Pk.nil _ | (refine Pk.pick (by repeat (first | exact Rm.here _ | apply Rm.there)) ?_)))
      ·refine JL_nil ?_
       refine JQ_then_n ?_
       refine J_no rfl rfl ?_
       refine J_exit ?_
       refine JQ_then_x ?_
       refine JQ_then_x ?_
       refine JQ_block_y rfl ?_
       refine JQ_then_n ?_
       obtain rfl : j = pl.length := by omega
       rw [List.take_length]
       refine J_keep (l' := [(2, _), (10, _), (11, _), (12, _), (13, _)]) ⟨rfl, rfl, rfl, rfl, rfl, trivial⟩ ?_
       refine J_reg ?_
       refine JM rfl rfl rfl rfl rfl ?_
       refine JM rfl rfl rfl rfl rfl ?_
       refine JM rfl rfl rfl rfl rfl ?_
       refine JP (rp2 rfl rfl (fun ρ hx hy w => ex_indexE rfl hx hy Try.underlying113 sz_26 (by omega))) ?_
       refine JV (rv_ownE (L := D40) (v := .slice _ pl.length pc) ED rfl rfl ag_26 (by repeat constructor) (by omega) (by omega) (by rw [hp]; rfl)) ?_
       refine JP (rp1 rfl (fun ρ hx w => ex_len (A := _) (c := _) rfl Try.underlying26 hx)) ?_
       refine JP (rp2 rfl rfl (fun ρ hx hy w => ex_add rfl hx hy (by omega))) ?_
       refine JN rfl rfl rfl rfl rfl ?_
       refine JL_nil ?_
       refine JQ_block_n ?_
       refine JQ_then_n ?_
       refine J_keep (l' := [(2, _), (10, _), (11, _), (12, _), (13, _)]) ⟨rfl, rfl, rfl, rfl, rfl, trivial⟩ ?_
       refine J_reg ?_
       refine JM rfl rfl rfl rfl rfl ?_
       refine JP (rp2 rfl rfl (fun ρ hx hy w => ex_add rfl hx hy (by omega))) ?_
       refine JN rfl rfl rfl rfl rfl ?_
       refine JL_nil ?_
       exact JQ_round (k + 1) (by omega) (by omega) ⟨rfl, rfl, rfl, (by rw [hnk]; exact congrArg some (by go_num)), (congrArg some (by go_num)), trivial⟩ (by (try dsimp only); rw [hsn2]; repeat (first | exact Pk.nil _ | (refine Pk.pick (by repeat (first | exact Rm.here _ | apply Rm.there)) ?_)))
    ·refine JL_nil ?_
     refine JQ_then_n ?_
     refine J_no rfl rfl ?_
     refine J_exit ?_
     refine JQ_then_x ?_
     refine JQ_then_x ?_
     refine JQ_block_y rfl ?_
     refine JQ_then_n ?_
     refine J_seq ?_
     refine J_keep (l' := [(11, _)]) ⟨rfl, trivial⟩ ?_
     refine J_reg ?_
     refine JM rfl rfl rfl rfl rfl ?_
     refine JN rfl rfl rfl rfl rfl ?_
     refine JN rfl rfl rfl rfl rfl ?_
     refine JL_nil ?_
     refine JQ_then_n ?_
     refine J_ret ?_
     refine JR_two rfl (rr_tmp rfl) (rr_tmp rfl) ?_
     intro w' hw
     have ek : k = (ordF l T).length := by rw [← hD40, List.length_map]; omega
     have e : przR (T : Nat) l pz = tabS T (prS pz ((ordF l T).take k)).2 := by unfold przR; rw [if_pos hE0, Int.toNat_natCast, ek, List.take_length]
     rw [e, hE0]
     refine ⟨_, T, by rw [tabS_len], ?_⟩
     rw [tabS_len]
     exact hw.pick (by repeat constructor)
end Go.Proofs.Ytlfbbofcnonhdaa
