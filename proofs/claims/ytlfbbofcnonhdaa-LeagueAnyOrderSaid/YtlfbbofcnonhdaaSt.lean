/- Contract: stand. -/
import Derived.Test.YtlfbbofcnonhdaaRw
import Derived.Test.YtlfbbofcnonhdaaJa
namespace Go.Proofs.Ytlfbbofcnonhdaa
open Go Go.RowKit Go.Proofs

theorem Try.info58 : (Try.prog.info? 58).map (fun i => (i.zero, i.size, i.bytes)) = some (some (.agg #[.int .i64 0, .int .i64 0, .int .i64 0, .int .i64 0, .int .i64 0, .int .i64 0, .int .i64 0, .int .i64 0]), 8, 64) := by kernel_rfl
theorem rows_focus (T : Nat) (f : Int → Rw) (j : Nat) (h : j < T) : rowsS T f = (rowsS T f).set j (f (j : Nat)) := by
 have : (rowsS T f).set j ((rowsS T f)[j]'(by rw [rowsS_len]; exact h)) = rowsS T f := List.set_getElem_self _
 rw [rowsS_get] at this; exact this.symm
theorem gs_focus (T : Nat) (f : Int → Int) (j : Nat) (h : j < T) : gsS T f = (gsS T f).set j (f (j : Nat)) := by
 have : (gsS T f).set j ((gsS T f)[j]'(by rw [gsS_len]; exact h)) = gsS T f := List.set_getElem_self _
 rw [gsS_get] at this; exact this.symm
def zW : Rw := ⟨0, 0, 0, 0, 0, 0, 0, 0⟩
theorem rep_rows (T : Nat) : List.replicate T zW = rowsS T fun _ => zW := by unfold rowsS; rw [List.map_const']; simp
theorem rep_gs (T : Nat) : List.replicate T (0 : Int) = gsS T fun _ => 0 := by unfold gsS; rw [List.map_const']; simp
theorem okR_all {T : Int} : ∀ {s : List (Int × Int)} {l : List Re}, okR T s l = true → ∀ x ∈ l, vldB T x = true
 | s, x :: l, h, y, hy => by
  unfold okR at h
  simp only [Bool.and_eq_true] at h
  rcases List.mem_cons.1 hy with rfl | hy
  ·exact h.1.1
  ·exact okR_all h.2 y hy
theorem vld_b {T : Int} {x : Re} (h : vldB T x = true) : ReB x ∧ (0 ≤ x.a ∧ x.a ≤ T - 1) ∧ (0 ≤ x.b ∧ x.b ≤ T - 1) ∧ x.a ≠ x.b ∧ x.p0 ≠ x.p1 := by
 have := of_decide_eq_true h
 obtain ⟨h1, h2, h3, h4, h5, h6, h7, h8⟩ := this
 exact ⟨⟨h1, h3, h2, h4⟩, h5, h6, h7, h8⟩
/-- A result added, up to side s. -/
def fS (l : List Re) (x : Re) (s : Nat) (t : Int) : Rw := addS s x t (rawN l t)
def gS (l : List Re) (x : Re) (s : Nat) (t : Int) : Int := addG s x t (gtN l t)
theorem fS_succ (l : List Re) (x : Re) (s : Nat) (t : Int) : fS l x (s + 1) t = if t = sdT s x then sideU (fS l x s t) (sdP s x) (sdP (1 - s) x) (sdM s x) else fS l x s t := rfl
theorem gS_succ (l : List Re) (x : Re) (s : Nat) (t : Int) : gS l x (s + 1) t = if t = sdT s x then max (gS l x s t) (sdM s x) else gS l x s t := rfl
theorem fS_set (T : Nat) (l : List Re) (x : Re) (s tm : Nat) (h : sdT s x = (tm : Int)) : (rowsS T (fS l x s)).set tm (sideU (fS l x s tm) (sdP s x) (sdP (1 - s) x) (sdM s x)) = rowsS T (fS l x (s + 1)) := by
 have e : sideU (fS l x s tm) (sdP s x) (sdP (1 - s) x) (sdM s x) = fS l x (s + 1) tm := by rw [fS_succ, if_pos h.symm]
 rw [e]
 refine rowsS_set T _ _ tm (fun t ht => ?_)
 by_cases e : t = tm
 ·subst e; rw [if_pos rfl]
 ·rw [if_neg e, fS_succ, if_neg (by rw [h]; omega)]
theorem gS_set (T : Nat) (l : List Re) (x : Re) (s tm : Nat) (h : sdT s x = (tm : Int)) : (gsS T (gS l x s)).set tm (max (gS l x s tm) (sdM s x)) = gsS T (gS l x (s + 1)) := by
 have e : max (gS l x s tm) (sdM s x) = gS l x (s + 1) tm := by rw [gS_succ, if_pos h.symm]
 rw [e]
 refine gsS_set T _ _ tm (fun t ht => ?_)
 by_cases e : t = tm
 ·subst e; rw [if_pos rfl]
 ·rw [if_neg e, gS_succ, if_neg (by rw [h]; omega)]

/-- The standings in memory: the block of the struct, of the rows, of the map; the map's entries. -/
def StdG (T : Nat) (l : List Re) (t : Nat × Nat × Nat × Nat × Nat) : List It :=
 [cellB t.1 [.slice (some ⟨t.2.1, 0, none⟩) T T, .map (some t.2.2.1)] 117, ownB 58 8 (some ⟨t.2.1, 0, none⟩) T T ((rowsS T (rowN l)).flatMap eW), mapB 42 3 kP W2 dI t.2.2.1 t.2.2.2.1 t.2.2.2.2 (wonM l)]
theorem rowN_b (l : List Re) (t : Int) (h : ∀ x ∈ l, ReB x) : RwB (rawN l t) (gtN l t) (2 * l.length) := raw_b l t h
set_option maxRecDepth 100000 in
set_option maxHeartbeats 8000000 in
theorem stand63 (T : Nat) (l : List Re) (v : Value) (w : World) (hT : 2 ≤ T ∧ T ≤ 16) (hl : l.length ≤ 300) (hrow : Arr 6 eR w v l) (hok : ∀ x ∈ l, vldB T x = true) : Calls Try.prog 63 #[.int .i64 (T : Nat), v] w (Ret w (fun t => t.2.2.2.1 ≤ 600) (fun t => .pointer (some ⟨t.1, 0, none⟩)) (StdG T l)) := by
 obtain ⟨A, cap, rfl, -, -, hA⟩ := hrow
 refine J_enter (fun _ => False) (vs := [.int .i64 (T : Nat), .slice A l.length cap]) (k := 193) (l := [(0, .int .i64 (T : Nat)), (1, .slice A l.length cap)]) Try.func63 rfl rfl Try.ntmps63 rfl rfl (Wd.start _) ?_
 refine J_seq ?_
 refine J_reg ?_
 refine JN rfl rfl rfl rfl rfl ?_
 refine JL_nil ?_
 refine JQ_then_n ?_
 refine J_seq ?_
 refine J_reg ?_
 refine JM rfl rfl rfl rfl rfl ?_
 refine JL_op (wn0 rfl) (ow_make EW zW Try.underlying45 Try.info58 rfl (by decide) (by decide) rfl rfl rfl rfl rfl (by omega)) (fun b16 hb16 => ?_)
 refine JL_op (wn0 rfl) (ow_makeMap (kt := 42) (e := 3) (kv := kP) (ok := W2) (ed := dI) rfl rfl rfl (fun _ => by kernel_rfl)) (fun b17 hb17 => ?_)
 refine JP (rp_buildC (fun us => [us.getD 0 undef, us.getD 1 undef]) rfl rfl (fun w => by kernel_rfl)) ?_
 refine JL_op (wn0 rfl) (ow_box (vs := [_, _]) rfl rfl rfl rfl rfl) (fun b19 hb19 => ?_)
 refine JN rfl rfl rfl rfl rfl ?_
 refine JL_nil ?_
 refine JQ_then_n ?_
 refine J_seq ?_
 refine J_keep (l' := [(0, _), (1, _), (5, _)]) ⟨rfl, rfl, rfl, trivial⟩ ?_
 refine J_reg ?_
 refine JM rfl rfl rfl rfl rfl ?_
 refine JL_op (wn0 rfl) (ow_make EI (0 : Int) Try.underlying26 Try.info3 rfl (by decide) (by decide) rfl rfl rfl rfl rfl (by omega)) (fun b21 hb21 => ?_)
 refine JN rfl rfl rfl rfl rfl ?_
 refine JL_nil ?_
 refine JQ_then_n ?_
 refine J_seq ?_
 refine J_seq ?_
 rw [rep_rows, rep_gs]
 refine J_reg ?_
 refine JM rfl rfl rfl rfl rfl ?_
 refine JP (rp_nil rfl rfl) ?_
 refine JP (rp_fieldC (off' := 0) rfl rfl fa_117_0 rfl) ?_
 refine JV (rv_cell rfl rfl ag_45 (by repeat constructor) (by rfl)) ?_
 refine JP (rp1 rfl (fun ρ hx w => ex_len (A := _) (c := _) rfl Try.underlying45 hx)) ?_
 refine JM rfl rfl rfl rfl rfl ?_
 refine JL_nil ?_
 refine JQ_then_n ?_
 refine J_block ?_
 refine J_loop (T := Nat) (fun i => i ≤ T) (fun i => [(1, .slice A l.length cap), (5, .pointer (some ⟨b19, 0, none⟩)), (6, .slice (some ⟨b21, 0, none⟩) T T), (26, .int .i64 (T : Nat)), (27, .int .i64 (i : Nat))]) (fun i => [ownB 3 1 (some ⟨b21, 0, none⟩) T T ((gsS T fun _ => 0).flatMap eI), cellB b19 [.slice (some ⟨b16, 0, none⟩) T T, .map (some b17)] 117, mapB 42 3 kP W2 dI b17 0 0 (fun _ => none), ownB 58 8 (some ⟨b16, 0, none⟩) T T ((rowsS T fun t => if t < (i : Int) then (⟨t, 0, 0, 0, 0, 0, 0, 0⟩ : Rw) else zW).flatMap eW)]) (fun i => T - i) 0 (Nat.zero_le _) ⟨rfl, rfl, rfl, rfl, rfl, trivial⟩ (by repeat constructor) ?_
 rintro i hphi
 refine J_seq ?_
 refine J_reg ?_
 refine JP (rp2 rfl rfl (fun ρ hx hy w => ex_lssD rfl hx hy)) ?_
 refine JL_dec (fun h28 => ?_) (fun h28 => ?_)
 ·refine JL_nil ?_
  refine JQ_then_n ?_
  refine J_seq ?_
  refine J_yes rfl rfl ?_
  refine J_skip ?_
  refine JQ_then_n ?_
  refine J_seq ?_
  refine J_block ?_
  refine J_seq ?_
  refine J_reg ?_
  refine JM rfl rfl rfl rfl rfl ?_
  refine JN rfl rfl rfl rfl rfl ?_
  refine JL_nil ?_
  refine JQ_then_n ?_
  refine J_reg ?_
  refine JM rfl rfl rfl rfl rfl ?_
  refine JP (rp_nil rfl rfl) ?_
  refine JP (rp_fieldC (off' := 0) rfl rfl fa_117_0 rfl) ?_
  refine JV (rv_cell rfl rfl ag_45 (by repeat constructor) (by rfl)) ?_
  refine JM rfl rfl rfl rfl rfl ?_
  refine JM rfl rfl rfl rfl rfl ?_
  refine JP (rp2 rfl rfl (fun ρ hx hy w => ex_indexE rfl hx hy Try.underlying45 sz_58 (by omega))) ?_
  refine JP (rp_fieldE (i' := 0) rfl rfl fa_58_0 rfl) ?_
  refine JL_op (wn0 rfl) (ow_storeE EW (cs := [_]) ⟨(i : Nat), 0, 0, 0, 0, 0, 0, 0⟩ rfl rfl rfl rfl rfl sz_3 rfl (by repeat constructor) (by rw [rowsS_len]; omega) (Nat.le_of_ble_eq_true rfl) (by rw [rowsS_get, if_neg (by omega)]; rfl)) (fun _ _ => ?_)
  refine JL_nil ?_
  refine JQ_block_n ?_
  refine JQ_then_n ?_
  refine J_keep (l' := [(1, _), (5, _), (6, _), (26, _), (27, _)]) ⟨rfl, rfl, rfl, rfl, rfl, trivial⟩ ?_
  refine J_reg ?_
  refine JP (rp2 rfl rfl (fun ρ hx hy w => ex_add rfl hx hy (by omega))) ?_
  refine JM rfl rfl rfl rfl rfl ?_
  refine JL_nil ?_
  have e1 : (rowsS T fun t => if t < (i : Int) then (⟨t, 0, 0, 0, 0, 0, 0, 0⟩ : Rw) else zW).set i ⟨(i : Nat), 0, 0, 0, 0, 0, 0, 0⟩ = rowsS T fun t => if t < ((i + 1 : Nat) : Int) then (⟨t, 0, 0, 0, 0, 0, 0, 0⟩ : Rw) else zW := by
   have := rowsS_set T (fun t => if t < (i : Int) then (⟨t, 0, 0, 0, 0, 0, 0, 0⟩ : Rw) else zW) (fun t => if t < ((i + 1 : Nat) : Int) then (⟨t, 0, 0, 0, 0, 0, 0, 0⟩ : Rw) else zW) i (fun t ht => by
    by_cases e : t = i
    ·subst e; simp
    ·rw [if_neg e]
     by_cases h : (t : Int) < i
     ·rw [if_pos h, if_pos (by omega)]
     ·rw [if_neg h, if_neg (by omega)])
   rw [if_pos (by omega)] at this
   exact this
  exact JQ_round (i + 1) (by omega) (by omega) ⟨rfl, rfl, rfl, rfl, (congrArg some (by go_num)), trivial⟩ (by (try dsimp only); rw [← e1]; repeat (first | exact Pk.nil _ | (refine Pk.pick (by repeat (first | exact Rm.here _ | apply Rm.there)) ?_)))
 ·refine JL_nil ?_
  refine JQ_then_n ?_
  refine J_seq ?_
  refine J_no rfl rfl ?_
  refine J_exit ?_
  refine JQ_then_x ?_
  refine JQ_then_x ?_
  refine JQ_block_y rfl ?_
  refine JQ_then_n ?_
  refine J_seq ?_
  refine J_seq ?_
  have hi : i = T := by omega
  rw [show (rowsS T fun t => if t < (i : Int) then (⟨t, 0, 0, 0, 0, 0, 0, 0⟩ : Rw) else zW) = rowsS T (rawN (l.take 0)) by
   unfold rowsS
   refine List.map_congr_left (fun t ht => ?_)
   have := List.mem_range.1 ht
   exact if_pos (by omega)]
  clear hi hphi
  refine J_reg ?_
  refine JM rfl rfl rfl rfl rfl ?_
  refine JP (rp1 rfl (fun ρ hx w => ex_len (A := _) (c := _) rfl Try.underlying44 hx)) ?_
  refine JM rfl rfl rfl rfl rfl ?_
  refine JL_nil ?_
  refine JQ_then_n ?_
  refine J_block ?_
  refine J_loop (T := Nat × Nat × Nat) (fun q => q.1 ≤ l.length ∧ q.2.1 ≤ 2 * q.1) (fun q => [(5, .pointer (some ⟨b19, 0, none⟩)), (6, .slice (some ⟨b21, 0, none⟩) T T), (39, .slice A l.length cap), (40, .int .i64 (l.length : Nat)), (41, .int .i64 (q.1 : Nat))]) (fun q => [ownB 3 1 (some ⟨b21, 0, none⟩) T T ((gsS T (gtN (l.take q.1))).flatMap eI), cellB b19 [.slice (some ⟨b16, 0, none⟩) T T, .map (some b17)] 117, mapB 42 3 kP W2 dI b17 q.2.1 q.2.2 (wonM (l.take q.1)), ownB 58 8 (some ⟨b16, 0, none⟩) T T ((rowsS T (rawN (l.take q.1))).flatMap eW)]) (fun q => l.length - q.1) (0, 0, 0) ⟨Nat.zero_le _, Nat.le_refl _⟩ ⟨rfl, rfl, rfl, rfl, rfl, trivial⟩ (by repeat constructor) ?_
  rintro ⟨k, N, c⟩ ⟨hk, hN⟩
  dsimp only at hk hN ⊢
  refine J_seq ?_
  refine J_reg ?_
  refine JP (rp2 rfl rfl (fun ρ hx hy w => ex_lssD rfl hx hy)) ?_
  refine JL_dec (fun h42 => ?_) (fun h42 => ?_)
  ·refine JL_nil ?_
   refine JQ_then_n ?_
   refine J_seq ?_
   refine J_yes rfl rfl ?_
   refine J_skip ?_
   refine JQ_then_n ?_
   refine J_seq ?_
   refine J_block ?_
   refine J_seq ?_
   have hlt : k < l.length := by omega
   obtain ⟨b, p, rfl, hh⟩ := hA (by intro e; subst e; simp at hlt)
   obtain ⟨hvb, hva, hvc, hab, hpp⟩ := vld_b (hok _ (List.getElem_mem hlt))
   have htk : l.take (k + 1) = l.take k ++ [l[k]'hlt] := List.take_succ_eq_append_getElem hlt
   have hRB : ∀ t, RwB (rawN (l.take k) t) (gtN (l.take k) t) (2 * k) := fun t => by
    have := raw_b (l.take k) t (fun y hy => (vld_b (hok y (List.mem_of_mem_take hy))).1)
    rwa [List.length_take, Nat.min_eq_left (by omega)] at this
   refine J_reg ?_
   refine JP (rp2 rfl rfl (fun ρ hx hy w => ex_indexE rfl hx hy Try.underlying44 sz_56 (by omega))) ?_
   refine JV (rv_holdagg (E := ER) rfl rfl ag_56 sz_56 (fun h => h) hh (by omega) rfl) ?_
   refine JL_op (wn0 rfl) (ow_alloc rfl rfl zv_56 rfl rfl) (fun b9 hb9 => ?_)
   refine JL_op (wn0 rfl) (ow_store (cs := [_, _, _, _, _, _]) (vs' := [_, _, _, _, _, _]) rfl rfl rfl rfl rfl sz_56 rfl (by repeat constructor) (by rfl) (by rfl)) (fun _ _ => ?_)
   refine JL_nil ?_
   refine JQ_then_n ?_
   refine J_seq ?_
   have e0 : rowsS T (rawN (l.take k)) = rowsS T (fS (l.take k) (l[k]'hlt) 0) := rfl
   have e1 : gsS T (gtN (l.take k)) = gsS T (gS (l.take k) (l[k]'hlt) 0) := rfl
   have e2 : wonM (l.take k) = addW 0 (l[k]'hlt) (wonM (l.take k)) := rfl
   have hx : ∃ x, l[k]'hlt = x := ⟨_, rfl⟩
   obtain ⟨x, hx⟩ := hx
   rw [hx] at hvb hva hvc hab hpp htk e0 e1 e2 ⊢
   refine J_reg ?_
   refine JP (rp_fieldC (off' := 0) rfl rfl fa_56_0 rfl) ?_
   refine JV (rv_cell rfl rfl ag_3 (by repeat constructor) (by rfl)) ?_
   refine JP (rp_fieldC (off' := 1) rfl rfl fa_56_1 rfl) ?_
   refine JV (rv_cell rfl rfl ag_3 (by repeat constructor) (by rfl)) ?_
   refine JP (rp_buildC (fun us => [us.getD 0 undef, us.getD 1 undef]) rfl rfl (fun w => by kernel_rfl)) ?_
   refine JM rfl rfl rfl rfl rfl ?_
   refine JL_nil ?_
   refine JQ_then_n ?_
   refine J_block ?_
   refine J_loop (T := Nat × Nat × Nat) (fun q => q.1 ≤ 2 ∧ q.2.1 ≤ N + q.1) (fun q => [(5, .pointer (some ⟨b19, 0, none⟩)), (6, .slice (some ⟨b21, 0, none⟩) T T), (9, .pointer (some ⟨b9, 0, none⟩)), (39, .slice (some ⟨b, p, none⟩) l.length cap), (40, .int .i64 (l.length : Nat)), (41, .int .i64 (k : Nat)), (49, .agg #[.int .i64 x.a, .int .i64 x.b]), (50, .int .i64 (q.1 : Nat))]) (fun q => [cellB b9 [.int .i64 x.a, .int .i64 x.b, .int .i64 x.p0, .int .i64 x.p1, .int .i64 x.m0, .int .i64 x.m1] 56, ownB 3 1 (some ⟨b21, 0, none⟩) T T ((gsS T (gS (l.take k) x q.1)).flatMap eI), cellB b19 [.slice (some ⟨b16, 0, none⟩) T T, .map (some b17)] 117, mapB 42 3 kP W2 dI b17 q.2.1 q.2.2 (addW q.1 x (wonM (l.take k))), ownB 58 8 (some ⟨b16, 0, none⟩) T T ((rowsS T (fS (l.take k) x q.1)).flatMap eW)]) (fun q => 2 - q.1) (0, N, c) ⟨by omega, Nat.le_refl _⟩ ⟨rfl, rfl, rfl, rfl, rfl, rfl, rfl, rfl, trivial⟩ (by repeat constructor) ?_
   rintro ⟨s, N2, c2⟩ ⟨hs, hN2⟩
   dsimp only at hs hN2 ⊢
   refine J_seq ?_
   rcases (show s = 0 ∨ s = 1 ∨ s = 2 by omega) with h0 | h0 | h0
   ·subst h0
    obtain ⟨tm, htm⟩ := Int.eq_ofNat_of_zero_le hva.1
    have htT : tm < T := by omega
    have hsd : sdT 0 x = (tm : Int) := htm
    have hfin := fS_set T (l.take k) x 0 tm hsd
    have hfing := gS_set T (l.take k) x 0 tm hsd
    have hrb := addS_b hvb (t := (tm : Int)) (hRB tm) 0
    have eR := rows_focus T (fS (l.take k) x 0) tm htT
    have eG := gs_focus T (gS (l.take k) x 0) tm htT
    have hrb' : RwB (fS (l.take k) x 0 tm) (gS (l.take k) x 0 tm) (2 * k + 0) := hrb
    rw [eR, eG]
    have hlR := rowsS_len T (fS (l.take k) x 0)
    have hlG := gsS_len T (gS (l.take k) x 0)
    generalize rowsS T (fS (l.take k) x 0) = R at hfin hlR ⊢
    generalize gsS T (gS (l.take k) x 0) = G at hfing hlG ⊢
    generalize fS (l.take k) x 0 tm = r at hfin hrb' ⊢
    generalize gS (l.take k) x 0 tm = g at hfing hrb' ⊢
    obtain ⟨g0, d0, w0, f0, l0', l0, mm0, ml, -, -⟩ := hrb'
    obtain ⟨y1, y2, y3, y4⟩ := hvb
    obtain ⟨rt, rp, rg, rw', rf, ra, rd, rl⟩ := r
    simp only at g0 d0 w0 f0 l0' l0 ml
    clear hrb
    refine J_reg ?_
    refine JP (rp2 rfl rfl (fun ρ hx hy w => ex_lssD rfl hx hy)) ?_
    refine JL_decT (by omega) ?_
    refine JL_nil ?_
    refine JQ_then_n ?_
    refine J_seq ?_
    refine J_yes rfl rfl ?_
    refine J_skip ?_
    refine JQ_then_n ?_
    refine J_seq ?_
    refine J_block ?_
    refine J_seq ?_
    refine J_reg ?_
    refine JM rfl rfl rfl rfl rfl ?_
    refine JP (rp_run2 (f := fun u v => Instr.index 42 u v) (v := .int .i64 x.a) (fun _ => rfl) rfl rfl (fun _ => by kernel_rfl)) ?_
    refine JN rfl rfl rfl rfl rfl ?_
    refine JN rfl rfl rfl rfl rfl ?_
    refine JL_nil ?_
    refine JQ_then_n ?_
    refine J_seq ?_
    refine J_reg ?_
    refine JM rfl rfl rfl rfl rfl ?_
    refine JP (rp_nil rfl rfl) ?_
    refine JP (rp_fieldC (off' := 0) rfl rfl fa_117_0 rfl) ?_
    refine JV (rv_cell rfl rfl ag_45 (by repeat constructor) (by rfl)) ?_
    refine JM rfl rfl rfl rfl rfl ?_
    refine JP (rp2 rfl rfl (fun ρ hx hy w => ex_indexI (k := tm) rfl hx hy htm Try.underlying45 sz_58 (by omega))) ?_
    refine JN rfl rfl rfl rfl rfl ?_
    refine JL_nil ?_
    refine JQ_then_n ?_
    refine J_seq ?_
    refine J_keep (l' := [(5, _), (6, _), (9, _), (10, _), (11, _), (12, _), (39, _), (40, _), (41, _), (49, _), (50, _)]) ⟨rfl, rfl, rfl, rfl, rfl, rfl, rfl, rfl, rfl, rfl, rfl, trivial⟩ ?_
    refine J_draw [5, 10] (by kernel_rfl) ?_
    refine JAP (i := 0) rfl (rp_move rfl rfl) ?_
    refine JAP (i := 1) rfl (rp_move rfl rfl) ?_
    refine JAP (i := 2) rfl (rp_move rfl rfl) ?_
    refine JAP (i := 3) rfl (rp_nil rfl rfl) ?_
    refine JAP (i := 4) rfl (rp_fieldE (i' := 2) rfl rfl fa_58_2 rfl) ?_
    refine JAL (i := 5) rfl (rv_ownSet EW rfl rfl ag_3 (by repeat constructor) (by omega) (by omega) (by dsimp only [eW]; rfl)) ?_
    refine JAP (i := 6) rfl (rp2 rfl rfl (fun ρ hx hy w => ex_add rfl hx hy (by omega))) ?_
    refine JAP (i := 7) rfl (rp_move rfl rfl) ?_
    refine JAP (i := 8) rfl (rp_nil rfl rfl) ?_
    refine JAP (i := 9) rfl (rp_fieldE (i' := 6) rfl rfl fa_58_6 rfl) ?_
    refine JAL (i := 10) rfl (rv_ownSet EW rfl rfl ag_3 (by repeat constructor) (by omega) (by omega) (by dsimp only [eW]; rfl)) ?_
    refine JAP (i := 11) rfl (rp2 rfl rfl (fun ρ hx hy w => ex_add rfl hx hy (by omega))) ?_
    refine JAP (i := 12) rfl (rp_nil rfl rfl) ?_
    refine JAP (i := 13) rfl (rp_fieldE (i' := 2) rfl rfl fa_58_2 rfl) ?_
    refine JA_one (i := 14) (by kernel_rfl) rfl (wn0 rfl) (ow_storeSet (cs := [_]) (r' := ⟨_, _, _, _, _, _, _, _⟩) EW rfl rfl rfl rfl rfl sz_3 rfl (by repeat constructor) (by omega) (Nat.le_of_ble_eq_true rfl) (by dsimp only [eW]; rfl)) ⟨by kernel_rfl, .inl (by kernel_rfl)⟩ (fun _ _ => ?_)
    refine JAP (i := 15) rfl (rp_nil rfl rfl) ?_
    refine JAP (i := 16) rfl (rp_fieldE (i' := 6) rfl rfl fa_58_6 rfl) ?_
    refine JA_one (i := 17) (by kernel_rfl) rfl (wn0 rfl) (ow_storeSet (cs := [_]) (r' := ⟨_, _, _, _, _, _, _, _⟩) EW rfl rfl rfl rfl rfl sz_3 rfl (by repeat constructor) (by omega) (Nat.le_of_ble_eq_true rfl) (by dsimp only [eW]; rfl)) ⟨by kernel_rfl, .inl (by kernel_rfl)⟩ (fun _ _ => ?_)
    refine JA_done (by kernel_rfl) ?_
    refine JQ_then_n ?_
    refine J_seq ?_
    refine J_keep (l' := [(5, _), (6, _), (9, _), (10, _), (11, _), (12, _), (39, _), (40, _), (41, _), (49, _), (50, _)]) ⟨rfl, rfl, rfl, rfl, rfl, rfl, rfl, rfl, rfl, rfl, rfl, trivial⟩ ?_
    refine J_drawX [6, 10, 15, 25] [20, 29] [cellB b9 _ _] (by repeat constructor) (by kernel_rfl) ?_
    refine JAP (i := 0) rfl (rp_move rfl rfl) ?_
    refine JAP (i := 1) rfl (rp_move rfl rfl) ?_
    refine JAP (i := 2) rfl (rp_move rfl rfl) ?_
    refine JAP (i := 3) rfl (rp_move rfl rfl) ?_
    refine JAP (i := 4) rfl (rp_nil rfl rfl) ?_
    refine JAP (i := 5) rfl (rp_fieldE (i' := 4) rfl rfl fa_58_4 rfl) ?_
    refine JAL (i := 6) rfl (rv_ownSet EW rfl rfl ag_3 (by repeat constructor) (by omega) (by omega) (by dsimp only [eW]; rfl)) ?_
    refine JAP (i := 7) rfl (rp_move rfl rfl) ?_
    refine JAP (i := 8) rfl (rp_fieldC (off' := 2) rfl rfl fa_56_2 rfl) ?_
    refine JAP (i := 9) rfl (rp_arrC (off' := 2) rfl rfl rfl ia_42_0 rfl) ?_
    refine JAL (i := 10) rfl (rv_cell rfl rfl ag_3 (by repeat constructor) (by rfl)) ?_
    refine JAP (i := 11) rfl (rp2 rfl rfl (fun ρ hx hy w => ex_add rfl hx hy (by omega))) ?_
    refine JAP (i := 12) rfl (rp_move rfl rfl) ?_
    refine JAP (i := 13) rfl (rp_nil rfl rfl) ?_
    refine JAP (i := 14) rfl (rp_fieldE (i' := 5) rfl rfl fa_58_5 rfl) ?_
    refine JAL (i := 15) rfl (rv_ownSet EW rfl rfl ag_3 (by repeat constructor) (by omega) (by omega) (by dsimp only [eW]; rfl)) ?_
    refine JAP (i := 16) rfl (rp_move rfl rfl) ?_
    refine JAP (i := 17) rfl (rp2 rfl rfl (fun ρ hx hy w => ex_sub rfl hx hy (by omega))) ?_
    refine JAP (i := 18) rfl (rp_fieldC (off' := 2) rfl rfl fa_56_2 rfl) ?_
    refine JAP (i := 19) rfl (rp_arrC (off' := 3) rfl rfl rfl ia_42_1 rfl) ?_
    refine JAX (i := 20) rfl (rv_cell rfl rfl ag_3 (by repeat constructor) (by rfl)) ?_
    refine JAP (i := 21) rfl (rp2 rfl rfl (fun ρ hx hy w => ex_add rfl hx hy (by omega))) ?_
    refine JAP (i := 22) rfl (rp_move rfl rfl) ?_
    refine JAP (i := 23) rfl (rp_nil rfl rfl) ?_
    refine JAP (i := 24) rfl (rp_fieldE (i' := 7) rfl rfl fa_58_7 rfl) ?_
    refine JAL (i := 25) rfl (rv_ownSet EW rfl rfl ag_3 (by repeat constructor) (by omega) (by omega) (by dsimp only [eW]; rfl)) ?_
    refine JAP (i := 26) rfl (rp_move rfl rfl) ?_
    refine JAP (i := 27) rfl (rp_fieldC (off' := 4) rfl rfl fa_56_3 rfl) ?_
    refine JAP (i := 28) rfl (rp_arrC (off' := 4) rfl rfl rfl ia_42_0 rfl) ?_
    refine JAX (i := 29) rfl (rv_cell rfl rfl ag_3 (by repeat constructor) (by rfl)) ?_
    refine JAP (i := 30) rfl (rp2 rfl rfl (fun ρ hx hy w => ex_add rfl hx hy (by omega))) ?_
    refine JAP (i := 31) rfl (rp_nil rfl rfl) ?_
    refine JAP (i := 32) rfl (rp_fieldE (i' := 4) rfl rfl fa_58_4 rfl) ?_
    refine JA_one (i := 33) (by kernel_rfl) rfl (wn0 rfl) (ow_storeSet (cs := [_]) (r' := ⟨_, _, _, _, _, _, _, _⟩) EW rfl rfl rfl rfl rfl sz_3 rfl (by repeat constructor) (by omega) (Nat.le_of_ble_eq_true rfl) (by dsimp only [eW]; rfl)) ⟨by kernel_rfl, .inr ⟨rfl, (by repeat constructor)⟩⟩ (fun _ _ => ?_)
    refine JAP (i := 34) rfl (rp_nil rfl rfl) ?_
    refine JAP (i := 35) rfl (rp_fieldE (i' := 5) rfl rfl fa_58_5 rfl) ?_
    refine JA_one (i := 36) (by kernel_rfl) rfl (wn0 rfl) (ow_storeSet (cs := [_]) (r' := ⟨_, _, _, _, _, _, _, _⟩) EW rfl rfl rfl rfl rfl sz_3 rfl (by repeat constructor) (by omega) (Nat.le_of_ble_eq_true rfl) (by dsimp only [eW]; rfl)) ⟨by kernel_rfl, .inr ⟨rfl, (by repeat constructor)⟩⟩ (fun _ _ => ?_)
    refine JAP (i := 37) rfl (rp_nil rfl rfl) ?_
    refine JAP (i := 38) rfl (rp_fieldE (i' := 7) rfl rfl fa_58_7 rfl) ?_
    refine JA_one (i := 39) (by kernel_rfl) rfl (wn0 rfl) (ow_storeSet (cs := [_]) (r' := ⟨_, _, _, _, _, _, _, _⟩) EW rfl rfl rfl rfl rfl sz_3 rfl (by repeat constructor) (by omega) (Nat.le_of_ble_eq_true rfl) (by dsimp only [eW]; rfl)) ⟨by kernel_rfl, .inr ⟨rfl, (by repeat constructor)⟩⟩ (fun _ _ => ?_)
    refine JA_done (by kernel_rfl) ?_
    refine JQ_then_n ?_
    refine J_seq ?_
    refine J_keep (l' := [(5, _), (6, _), (9, _), (10, _), (11, _), (12, _), (39, _), (40, _), (41, _), (49, _), (50, _)]) ⟨rfl, rfl, rfl, rfl, rfl, rfl, rfl, rfl, rfl, rfl, rfl, trivial⟩ ?_
    refine J_draw [5, 9] (by kernel_rfl) ?_
    refine JAP (i := 0) rfl (rp_move rfl rfl) ?_
    refine JAP (i := 1) rfl (rp_move rfl rfl) ?_
    refine JAP (i := 2) rfl (rp_move rfl rfl) ?_
    refine JAP (i := 3) rfl (rp_move rfl rfl) ?_
    refine JAP (i := 4) rfl (rp2 rfl rfl (fun ρ hx hy w => ex_indexI (k := tm) rfl hx hy htm Try.underlying26 sz_3 (by omega))) ?_
    refine JAL (i := 5) rfl (rv_ownSet EI rfl rfl ag_3 (by repeat constructor) (by omega) (by omega) (by dsimp only [eI]; rfl)) ?_
    refine JAP (i := 6) rfl (rp_move rfl rfl) ?_
    refine JAP (i := 7) rfl (rp_fieldC (off' := 4) rfl rfl fa_56_3 rfl) ?_
    refine JAP (i := 8) rfl (rp_arrC (off' := 4) rfl rfl rfl ia_42_0 rfl) ?_
    refine JAL (i := 9) rfl (rv_cell rfl rfl ag_3 (by repeat constructor) (by rfl)) ?_
    refine JAP (i := 10) rfl (rp2 rfl rfl (fun ρ hx hy w => ex_max rfl hx hy)) ?_
    refine JAP (i := 11) rfl (rp2 rfl rfl (fun ρ hx hy w => ex_indexI (k := tm) rfl hx hy htm Try.underlying26 sz_3 (by omega))) ?_
    refine JA_one (i := 12) (by kernel_rfl) rfl (wn0 rfl) (ow_storeSet (cs := [_]) (r' := _) EI rfl rfl rfl rfl rfl sz_3 rfl (by repeat constructor) (by omega) (Nat.le_of_ble_eq_true rfl) (by dsimp only [eI]; rfl)) ⟨by kernel_rfl, .inl (by kernel_rfl)⟩ (fun _ _ => ?_)
    refine JA_done (by kernel_rfl) ?_
    refine JQ_then_n ?_
    refine J_seq ?_
    refine J_keep (l' := [(5, _), (6, _), (9, _), (10, _), (11, _), (12, _), (39, _), (40, _), (41, _), (49, _), (50, _)]) ⟨rfl, rfl, rfl, rfl, rfl, rfl, rfl, rfl, rfl, rfl, rfl, trivial⟩ ?_
    refine J_draw [3, 8] (by kernel_rfl) ?_
    refine JAP (i := 0) rfl (rp_move rfl rfl) ?_
    refine JAP (i := 1) rfl (rp_fieldC (off' := 2) rfl rfl fa_56_2 rfl) ?_
    refine JAP (i := 2) rfl (rp_arrC (off' := 2) rfl rfl rfl ia_42_0 rfl) ?_
    refine JAL (i := 3) rfl (rv_cell rfl rfl ag_3 (by repeat constructor) (by rfl)) ?_
    refine JAP (i := 4) rfl (rp_move rfl rfl) ?_
    refine JAP (i := 5) rfl (rp2 rfl rfl (fun ρ hx hy w => ex_sub rfl hx hy (by omega))) ?_
    refine JAP (i := 6) rfl (rp_fieldC (off' := 2) rfl rfl fa_56_2 rfl) ?_
    refine JAP (i := 7) rfl (rp_arrC (off' := 3) rfl rfl rfl ia_42_1 rfl) ?_
    refine JAL (i := 8) rfl (rv_cell rfl rfl ag_3 (by repeat constructor) (by rfl)) ?_
    refine JAP (i := 9) rfl (rp2 rfl rfl (fun ρ hx hy w => ex_gtrD rfl hx hy)) ?_
    refine JA_dec (fun h134 => ?_) (fun h134 => ?_)
    ·refine JA_done (by kernel_rfl) ?_
     refine JQ_then_n ?_
     refine J_yes rfl rfl ?_
     refine J_seq ?_
     refine J_keep (l' := [(5, _), (6, _), (9, _), (11, _), (12, _), (39, _), (40, _), (41, _), (49, _), (50, _)]) ⟨rfl, rfl, rfl, rfl, rfl, rfl, rfl, rfl, rfl, rfl, trivial⟩ ?_
     refine J_reg ?_
     refine JM rfl rfl rfl rfl rfl ?_
     refine JP (rp_nil rfl rfl) ?_
     refine JP (rp_fieldE (i' := 3) rfl rfl fa_58_3 rfl) ?_
     refine JV (rv_ownSet EW rfl rfl ag_3 (by repeat constructor) (by omega) (by omega) (by dsimp only [eW]; rfl)) ?_
     refine JP (rp2 rfl rfl (fun ρ hx hy w => ex_add rfl hx hy (by omega))) ?_
     refine JP (rp_nil rfl rfl) ?_
     refine JP (rp_fieldE (i' := 3) rfl rfl fa_58_3 rfl) ?_
     refine JL_op (wn0 rfl) (ow_storeSet (cs := [_]) (r' := ⟨_, _, _, _, _, _, _, _⟩) EW rfl rfl rfl rfl rfl sz_3 rfl (by repeat constructor) (by omega) (Nat.le_of_ble_eq_true rfl) (by dsimp only [eW]; rfl)) (fun _ _ => ?_)
     refine JL_nil ?_
     refine JQ_then_n ?_
     refine J_keep (l' := [(5, _), (6, _), (9, _), (11, _), (39, _), (40, _), (41, _), (49, _), (50, _)]) ⟨rfl, rfl, rfl, rfl, rfl, rfl, rfl, rfl, rfl, trivial⟩ ?_
     refine J_draw [3, 5, 7] (by kernel_rfl) ?_
     refine JAP (i := 0) rfl (rp_move rfl rfl) ?_
     refine JAP (i := 1) rfl (rp_nil rfl rfl) ?_
     refine JAP (i := 2) rfl (rp_fieldC (off' := 1) rfl rfl fa_117_1 rfl) ?_
     refine JAL (i := 3) rfl (rv_cell rfl rfl ag_115 (by repeat constructor) (by rfl)) ?_
     refine JAP (i := 4) rfl (rp_fieldC (off' := 0) rfl rfl fa_56_0 rfl) ?_
     refine JAL (i := 5) rfl (rv_cell rfl rfl ag_3 (by repeat constructor) (by rfl)) ?_
     refine JAP (i := 6) rfl (rp_fieldC (off' := 1) rfl rfl fa_56_1 rfl) ?_
     refine JAL (i := 7) rfl (rv_cell rfl rfl ag_3 (by repeat constructor) (by rfl)) ?_
     refine JAP (i := 9) rfl (rp_move rfl rfl) ?_
     refine JA_one (i := 8) (by kernel_rfl) rfl (wn0 rfl) (ow_callB (ec_fn rfl rfl cf_69) rfl rfl (fun w hw => pair69 _ _ _)) trivial (fun _ _ => ?_)
     refine JA_one (i := 10) (by kernel_rfl) rfl (wn0 rfl) (ow_put K42 E3 (min x.a x.b, max x.a x.b) ((tm : Nat) : Int) Try.underlying115 rfl rfl rfl rfl rfl rfl (congrArg (Value.int .i64) htm) (by repeat constructor) (by refine ⟨⟨?_, ?_⟩, ⟨?_, ?_⟩⟩ <;> dsimp only <;> omega) (by unfold W64; omega) (by omega)) ⟨by kernel_rfl, .inl (by kernel_rfl)⟩ (fun _ _ => ?_)
     refine JA_done (by kernel_rfl) ?_
     refine JQ_block_n ?_
     refine JQ_then_n ?_
     refine J_keep (l' := [(5, _), (6, _), (9, _), (39, _), (40, _), (41, _), (49, _), (50, _)]) ⟨rfl, rfl, rfl, rfl, rfl, rfl, rfl, rfl, trivial⟩ ?_
     refine J_reg ?_
     refine JP (rp2 rfl rfl (fun ρ hx hy w => ex_add rfl hx hy (by omega))) ?_
     refine JM rfl rfl rfl rfl rfl ?_
     refine JL_nil ?_
     have hS : sideU ⟨rt, rp, rg, rw', rf, ra, rd, rl⟩ x.p0 x.p1 x.m0 = ⟨rt, rp, rg + 1, rw' + 1, rf + x.p0, ra + x.p1, rd + 1, rl + x.m0⟩ := by unfold sideU; rw [if_pos h134]
     have hfin2 : R.set tm (sideU ⟨rt, rp, rg, rw', rf, ra, rd, rl⟩ x.p0 x.p1 x.m0) = rowsS T (fS (l.take k) x (0 + 1)) := hfin
     have hfing2 : G.set tm (max g x.m0) = gsS T (gS (l.take k) x (0 + 1)) := hfing
     rw [hS] at hfin2
     have hW : addW (0 + 1) x (wonM (l.take k)) = upd (addW 0 x (wonM (l.take k))) (min x.a x.b, max x.a x.b) ((tm : Nat) : Int) := by
      show (if x.p1 < x.p0 then upd _ (keyR x) (sdT 0 x) else _) = _
      rw [if_pos h134, hsd]; rfl
     exact JQ_round (0 + 1, N2 + 1, _) ⟨by omega, by dsimp only; omega⟩ (by dsimp only; omega) ⟨rfl, rfl, rfl, rfl, rfl, rfl, rfl, (congrArg some (by go_num)), trivial⟩ (by (try dsimp only); rw [← hfin2, ← hfing2, hW]; repeat (first | exact Pk.nil _ | (refine Pk.pick (by repeat (first | exact Rm.here _ | apply Rm.there)) ?_)))
    ·refine JA_done (by kernel_rfl) ?_
     refine JQ_then_n ?_
     refine J_no rfl rfl ?_
     refine J_skip ?_
     refine JQ_block_n ?_
     refine JQ_then_n ?_
     refine J_keep (l' := [(5, _), (6, _), (9, _), (39, _), (40, _), (41, _), (49, _), (50, _)]) ⟨rfl, rfl, rfl, rfl, rfl, rfl, rfl, rfl, trivial⟩ ?_
     refine J_reg ?_
     refine JP (rp2 rfl rfl (fun ρ hx hy w => ex_add rfl hx hy (by omega))) ?_
     refine JM rfl rfl rfl rfl rfl ?_
     refine JL_nil ?_
     have hS : sideU ⟨rt, rp, rg, rw', rf, ra, rd, rl⟩ x.p0 x.p1 x.m0 = ⟨rt, rp, rg + 1, rw', rf + x.p0, ra + x.p1, rd + 1, rl + x.m0⟩ := by unfold sideU; rw [if_neg h134]
     have hfin2 : R.set tm (sideU ⟨rt, rp, rg, rw', rf, ra, rd, rl⟩ x.p0 x.p1 x.m0) = rowsS T (fS (l.take k) x (0 + 1)) := hfin
     have hfing2 : G.set tm (max g x.m0) = gsS T (gS (l.take k) x (0 + 1)) := hfing
     rw [hS] at hfin2
     have hW : addW (0 + 1) x (wonM (l.take k)) = addW 0 x (wonM (l.take k)) := by
      show (if x.p1 < x.p0 then _ else _) = _
      rw [if_neg h134]
     exact JQ_round (0 + 1, N2, c2) ⟨by omega, by dsimp only; omega⟩ (by dsimp only; omega) ⟨rfl, rfl, rfl, rfl, rfl, rfl, rfl, (congrArg some (by go_num)), trivial⟩ (by (try dsimp only); rw [← hfin2, ← hfing2, hW]; repeat (first | exact Pk.nil _ | (refine Pk.pick (by repeat (first | exact Rm.here _ | apply Rm.there)) ?_)))
   ·subst h0
    obtain ⟨tm, htm⟩ := Int.eq_ofNat_of_zero_le hvc.1
    have htT : tm < T := by omega
    have hsd : sdT 1 x = (tm : Int) := htm
    have hfin := fS_set T (l.take k) x 1 tm hsd
    have hfing := gS_set T (l.take k) x 1 tm hsd
    have hrb := addS_b hvb (t := (tm : Int)) (hRB tm) 1
    have eR := rows_focus T (fS (l.take k) x 1) tm htT
    have eG := gs_focus T (gS (l.take k) x 1) tm htT
    have hrb' : RwB (fS (l.take k) x 1 tm) (gS (l.take k) x 1 tm) (2 * k + 1) := hrb
    rw [eR, eG]
    have hlR := rowsS_len T (fS (l.take k) x 1)
    have hlG := gsS_len T (gS (l.take k) x 1)
    generalize rowsS T (fS (l.take k) x 1) = R at hfin hlR ⊢
    generalize gsS T (gS (l.take k) x 1) = G at hfing hlG ⊢
    generalize fS (l.take k) x 1 tm = r at hfin hrb' ⊢
    generalize gS (l.take k) x 1 tm = g at hfing hrb' ⊢
    obtain ⟨g0, d0, w0, f0, l0', l0, mm0, ml, -, -⟩ := hrb'
    obtain ⟨y1, y2, y3, y4⟩ := hvb
    obtain ⟨rt, rp, rg, rw', rf, ra, rd, rl⟩ := r
    simp only at g0 d0 w0 f0 l0' l0 ml
    clear hrb
    refine J_reg ?_
    refine JP (rp2 rfl rfl (fun ρ hx hy w => ex_lssD rfl hx hy)) ?_
    refine JL_decT (by omega) ?_
    refine JL_nil ?_
    refine JQ_then_n ?_
    refine J_seq ?_
    refine J_yes rfl rfl ?_
    refine J_skip ?_
    refine JQ_then_n ?_
    refine J_seq ?_
    refine J_block ?_
    refine J_seq ?_
    refine J_reg ?_
    refine JM rfl rfl rfl rfl rfl ?_
    refine JP (rp_run2 (f := fun u v => Instr.index 42 u v) (v := .int .i64 x.b) (fun _ => rfl) rfl rfl (fun _ => by kernel_rfl)) ?_
    refine JN rfl rfl rfl rfl rfl ?_
    refine JN rfl rfl rfl rfl rfl ?_
    refine JL_nil ?_
    refine JQ_then_n ?_
    refine J_seq ?_
    refine J_reg ?_
    refine JM rfl rfl rfl rfl rfl ?_
    refine JP (rp_nil rfl rfl) ?_
    refine JP (rp_fieldC (off' := 0) rfl rfl fa_117_0 rfl) ?_
    refine JV (rv_cell rfl rfl ag_45 (by repeat constructor) (by rfl)) ?_
    refine JM rfl rfl rfl rfl rfl ?_
    refine JP (rp2 rfl rfl (fun ρ hx hy w => ex_indexI (k := tm) rfl hx hy htm Try.underlying45 sz_58 (by omega))) ?_
    refine JN rfl rfl rfl rfl rfl ?_
    refine JL_nil ?_
    refine JQ_then_n ?_
    refine J_seq ?_
    refine J_keep (l' := [(5, _), (6, _), (9, _), (10, _), (11, _), (12, _), (39, _), (40, _), (41, _), (49, _), (50, _)]) ⟨rfl, rfl, rfl, rfl, rfl, rfl, rfl, rfl, rfl, rfl, rfl, trivial⟩ ?_
    refine J_draw [5, 10] (by kernel_rfl) ?_
    refine JAP (i := 0) rfl (rp_move rfl rfl) ?_
    refine JAP (i := 1) rfl (rp_move rfl rfl) ?_
    refine JAP (i := 2) rfl (rp_move rfl rfl) ?_
    refine JAP (i := 3) rfl (rp_nil rfl rfl) ?_
    refine JAP (i := 4) rfl (rp_fieldE (i' := 2) rfl rfl fa_58_2 rfl) ?_
    refine JAL (i := 5) rfl (rv_ownSet EW rfl rfl ag_3 (by repeat constructor) (by omega) (by omega) (by dsimp only [eW]; rfl)) ?_
    refine JAP (i := 6) rfl (rp2 rfl rfl (fun ρ hx hy w => ex_add rfl hx hy (by omega))) ?_
    refine JAP (i := 7) rfl (rp_move rfl rfl) ?_
    refine JAP (i := 8) rfl (rp_nil rfl rfl) ?_
    refine JAP (i := 9) rfl (rp_fieldE (i' := 6) rfl rfl fa_58_6 rfl) ?_
    refine JAL (i := 10) rfl (rv_ownSet EW rfl rfl ag_3 (by repeat constructor) (by omega) (by omega) (by dsimp only [eW]; rfl)) ?_
    refine JAP (i := 11) rfl (rp2 rfl rfl (fun ρ hx hy w => ex_add rfl hx hy (by omega))) ?_
    refine JAP (i := 12) rfl (rp_nil rfl rfl) ?_
    refine JAP (i := 13) rfl (rp_fieldE (i' := 2) rfl rfl fa_58_2 rfl) ?_
    refine JA_one (i := 14) (by kernel_rfl) rfl (wn0 rfl) (ow_storeSet (cs := [_]) (r' := ⟨_, _, _, _, _, _, _, _⟩) EW rfl rfl rfl rfl rfl sz_3 rfl (by repeat constructor) (by omega) (Nat.le_of_ble_eq_true rfl) (by dsimp only [eW]; rfl)) ⟨by kernel_rfl, .inl (by kernel_rfl)⟩ (fun _ _ => ?_)
    refine JAP (i := 15) rfl (rp_nil rfl rfl) ?_
    refine JAP (i := 16) rfl (rp_fieldE (i' := 6) rfl rfl fa_58_6 rfl) ?_
    refine JA_one (i := 17) (by kernel_rfl) rfl (wn0 rfl) (ow_storeSet (cs := [_]) (r' := ⟨_, _, _, _, _, _, _, _⟩) EW rfl rfl rfl rfl rfl sz_3 rfl (by repeat constructor) (by omega) (Nat.le_of_ble_eq_true rfl) (by dsimp only [eW]; rfl)) ⟨by kernel_rfl, .inl (by kernel_rfl)⟩ (fun _ _ => ?_)
    refine JA_done (by kernel_rfl) ?_
    refine JQ_then_n ?_
    refine J_seq ?_
    refine J_keep (l' := [(5, _), (6, _), (9, _), (10, _), (11, _), (12, _), (39, _), (40, _), (41, _), (49, _), (50, _)]) ⟨rfl, rfl, rfl, rfl, rfl, rfl, rfl, rfl, rfl, rfl, rfl, trivial⟩ ?_
    refine J_drawX [6, 10, 15, 25] [20, 29] [cellB b9 _ _] (by repeat constructor) (by kernel_rfl) ?_
    refine JAP (i := 0) rfl (rp_move rfl rfl) ?_
    refine JAP (i := 1) rfl (rp_move rfl rfl) ?_
    refine JAP (i := 2) rfl (rp_move rfl rfl) ?_
    refine JAP (i := 3) rfl (rp_move rfl rfl) ?_
    refine JAP (i := 4) rfl (rp_nil rfl rfl) ?_
    refine JAP (i := 5) rfl (rp_fieldE (i' := 4) rfl rfl fa_58_4 rfl) ?_
    refine JAL (i := 6) rfl (rv_ownSet EW rfl rfl ag_3 (by repeat constructor) (by omega) (by omega) (by dsimp only [eW]; rfl)) ?_
    refine JAP (i := 7) rfl (rp_move rfl rfl) ?_
    refine JAP (i := 8) rfl (rp_fieldC (off' := 2) rfl rfl fa_56_2 rfl) ?_
    refine JAP (i := 9) rfl (rp_arrC (off' := 3) rfl rfl rfl ia_42_1 rfl) ?_
    refine JAL (i := 10) rfl (rv_cell rfl rfl ag_3 (by repeat constructor) (by rfl)) ?_
    refine JAP (i := 11) rfl (rp2 rfl rfl (fun ρ hx hy w => ex_add rfl hx hy (by omega))) ?_
    refine JAP (i := 12) rfl (rp_move rfl rfl) ?_
    refine JAP (i := 13) rfl (rp_nil rfl rfl) ?_
    refine JAP (i := 14) rfl (rp_fieldE (i' := 5) rfl rfl fa_58_5 rfl) ?_
    refine JAL (i := 15) rfl (rv_ownSet EW rfl rfl ag_3 (by repeat constructor) (by omega) (by omega) (by dsimp only [eW]; rfl)) ?_
    refine JAP (i := 16) rfl (rp_move rfl rfl) ?_
    refine JAP (i := 17) rfl (rp2 rfl rfl (fun ρ hx hy w => ex_sub rfl hx hy (by omega))) ?_
    refine JAP (i := 18) rfl (rp_fieldC (off' := 2) rfl rfl fa_56_2 rfl) ?_
    refine JAP (i := 19) rfl (rp_arrC (off' := 2) rfl rfl rfl ia_42_0 rfl) ?_
    refine JAX (i := 20) rfl (rv_cell rfl rfl ag_3 (by repeat constructor) (by rfl)) ?_
    refine JAP (i := 21) rfl (rp2 rfl rfl (fun ρ hx hy w => ex_add rfl hx hy (by omega))) ?_
    refine JAP (i := 22) rfl (rp_move rfl rfl) ?_
    refine JAP (i := 23) rfl (rp_nil rfl rfl) ?_
    refine JAP (i := 24) rfl (rp_fieldE (i' := 7) rfl rfl fa_58_7 rfl) ?_
    refine JAL (i := 25) rfl (rv_ownSet EW rfl rfl ag_3 (by repeat constructor) (by omega) (by omega) (by dsimp only [eW]; rfl)) ?_
    refine JAP (i := 26) rfl (rp_move rfl rfl) ?_
    refine JAP (i := 27) rfl (rp_fieldC (off' := 4) rfl rfl fa_56_3 rfl) ?_
    refine JAP (i := 28) rfl (rp_arrC (off' := 5) rfl rfl rfl ia_42_1 rfl) ?_
    refine JAX (i := 29) rfl (rv_cell rfl rfl ag_3 (by repeat constructor) (by rfl)) ?_
    refine JAP (i := 30) rfl (rp2 rfl rfl (fun ρ hx hy w => ex_add rfl hx hy (by omega))) ?_
    refine JAP (i := 31) rfl (rp_nil rfl rfl) ?_
    refine JAP (i := 32) rfl (rp_fieldE (i' := 4) rfl rfl fa_58_4 rfl) ?_
    refine JA_one (i := 33) (by kernel_rfl) rfl (wn0 rfl) (ow_storeSet (cs := [_]) (r' := ⟨_, _, _, _, _, _, _, _⟩) EW rfl rfl rfl rfl rfl sz_3 rfl (by repeat constructor) (by omega) (Nat.le_of_ble_eq_true rfl) (by dsimp only [eW]; rfl)) ⟨by kernel_rfl, .inr ⟨rfl, (by repeat constructor)⟩⟩ (fun _ _ => ?_)
    refine JAP (i := 34) rfl (rp_nil rfl rfl) ?_
    refine JAP (i := 35) rfl (rp_fieldE (i' := 5) rfl rfl fa_58_5 rfl) ?_
    refine JA_one (i := 36) (by kernel_rfl) rfl (wn0 rfl) (ow_storeSet (cs := [_]) (r' := ⟨_, _, _, _, _, _, _, _⟩) EW rfl rfl rfl rfl rfl sz_3 rfl (by repeat constructor) (by omega) (Nat.le_of_ble_eq_true rfl) (by dsimp only [eW]; rfl)) ⟨by kernel_rfl, .inr ⟨rfl, (by repeat constructor)⟩⟩ (fun _ _ => ?_)
    refine JAP (i := 37) rfl (rp_nil rfl rfl) ?_
    refine JAP (i := 38) rfl (rp_fieldE (i' := 7) rfl rfl fa_58_7 rfl) ?_
    refine JA_one (i := 39) (by kernel_rfl) rfl (wn0 rfl) (ow_storeSet (cs := [_]) (r' := ⟨_, _, _, _, _, _, _, _⟩) EW rfl rfl rfl rfl rfl sz_3 rfl (by repeat constructor) (by omega) (Nat.le_of_ble_eq_true rfl) (by dsimp only [eW]; rfl)) ⟨by kernel_rfl, .inr ⟨rfl, (by repeat constructor)⟩⟩ (fun _ _ => ?_)
    refine JA_done (by kernel_rfl) ?_
    refine JQ_then_n ?_
    refine J_seq ?_
    refine J_keep (l' := [(5, _), (6, _), (9, _), (10, _), (11, _), (12, _), (39, _), (40, _), (41, _), (49, _), (50, _)]) ⟨rfl, rfl, rfl, rfl, rfl, rfl, rfl, rfl, rfl, rfl, rfl, trivial⟩ ?_
    refine J_draw [5, 9] (by kernel_rfl) ?_
    refine JAP (i := 0) rfl (rp_move rfl rfl) ?_
    refine JAP (i := 1) rfl (rp_move rfl rfl) ?_
    refine JAP (i := 2) rfl (rp_move rfl rfl) ?_
    refine JAP (i := 3) rfl (rp_move rfl rfl) ?_
    refine JAP (i := 4) rfl (rp2 rfl rfl (fun ρ hx hy w => ex_indexI (k := tm) rfl hx hy htm Try.underlying26 sz_3 (by omega))) ?_
    refine JAL (i := 5) rfl (rv_ownSet EI rfl rfl ag_3 (by repeat constructor) (by omega) (by omega) (by dsimp only [eI]; rfl)) ?_
    refine JAP (i := 6) rfl (rp_move rfl rfl) ?_
    refine JAP (i := 7) rfl (rp_fieldC (off' := 4) rfl rfl fa_56_3 rfl) ?_
    refine JAP (i := 8) rfl (rp_arrC (off' := 5) rfl rfl rfl ia_42_1 rfl) ?_
    refine JAL (i := 9) rfl (rv_cell rfl rfl ag_3 (by repeat constructor) (by rfl)) ?_
    refine JAP (i := 10) rfl (rp2 rfl rfl (fun ρ hx hy w => ex_max rfl hx hy)) ?_
    refine JAP (i := 11) rfl (rp2 rfl rfl (fun ρ hx hy w => ex_indexI (k := tm) rfl hx hy htm Try.underlying26 sz_3 (by omega))) ?_
    refine JA_one (i := 12) (by kernel_rfl) rfl (wn0 rfl) (ow_storeSet (cs := [_]) (r' := _) EI rfl rfl rfl rfl rfl sz_3 rfl (by repeat constructor) (by omega) (Nat.le_of_ble_eq_true rfl) (by dsimp only [eI]; rfl)) ⟨by kernel_rfl, .inl (by kernel_rfl)⟩ (fun _ _ => ?_)
    refine JA_done (by kernel_rfl) ?_
    refine JQ_then_n ?_
    refine J_seq ?_
    refine J_keep (l' := [(5, _), (6, _), (9, _), (10, _), (11, _), (12, _), (39, _), (40, _), (41, _), (49, _), (50, _)]) ⟨rfl, rfl, rfl, rfl, rfl, rfl, rfl, rfl, rfl, rfl, rfl, trivial⟩ ?_
    refine J_draw [3, 8] (by kernel_rfl) ?_
    refine JAP (i := 0) rfl (rp_move rfl rfl) ?_
    refine JAP (i := 1) rfl (rp_fieldC (off' := 2) rfl rfl fa_56_2 rfl) ?_
    refine JAP (i := 2) rfl (rp_arrC (off' := 3) rfl rfl rfl ia_42_1 rfl) ?_
    refine JAL (i := 3) rfl (rv_cell rfl rfl ag_3 (by repeat constructor) (by rfl)) ?_
    refine JAP (i := 4) rfl (rp_move rfl rfl) ?_
    refine JAP (i := 5) rfl (rp2 rfl rfl (fun ρ hx hy w => ex_sub rfl hx hy (by omega))) ?_
    refine JAP (i := 6) rfl (rp_fieldC (off' := 2) rfl rfl fa_56_2 rfl) ?_
    refine JAP (i := 7) rfl (rp_arrC (off' := 2) rfl rfl rfl ia_42_0 rfl) ?_
    refine JAL (i := 8) rfl (rv_cell rfl rfl ag_3 (by repeat constructor) (by rfl)) ?_
    refine JAP (i := 9) rfl (rp2 rfl rfl (fun ρ hx hy w => ex_gtrD rfl hx hy)) ?_
    refine JA_dec (fun h134 => ?_) (fun h134 => ?_)
    ·refine JA_done (by kernel_rfl) ?_
     refine JQ_then_n ?_
     refine J_yes rfl rfl ?_
     refine J_seq ?_
     refine J_keep (l' := [(5, _), (6, _), (9, _), (11, _), (12, _), (39, _), (40, _), (41, _), (49, _), (50, _)]) ⟨rfl, rfl, rfl, rfl, rfl, rfl, rfl, rfl, rfl, rfl, trivial⟩ ?_
     refine J_reg ?_
     refine JM rfl rfl rfl rfl rfl ?_
     refine JP (rp_nil rfl rfl) ?_
     refine JP (rp_fieldE (i' := 3) rfl rfl fa_58_3 rfl) ?_
     refine JV (rv_ownSet EW rfl rfl ag_3 (by repeat constructor) (by omega) (by omega) (by dsimp only [eW]; rfl)) ?_
     refine JP (rp2 rfl rfl (fun ρ hx hy w => ex_add rfl hx hy (by omega))) ?_
     refine JP (rp_nil rfl rfl) ?_
     refine JP (rp_fieldE (i' := 3) rfl rfl fa_58_3 rfl) ?_
     refine JL_op (wn0 rfl) (ow_storeSet (cs := [_]) (r' := ⟨_, _, _, _, _, _, _, _⟩) EW rfl rfl rfl rfl rfl sz_3 rfl (by repeat constructor) (by omega) (Nat.le_of_ble_eq_true rfl) (by dsimp only [eW]; rfl)) (fun _ _ => ?_)
     refine JL_nil ?_
     refine JQ_then_n ?_
     refine J_keep (l' := [(5, _), (6, _), (9, _), (11, _), (39, _), (40, _), (41, _), (49, _), (50, _)]) ⟨rfl, rfl, rfl, rfl, rfl, rfl, rfl, rfl, rfl, trivial⟩ ?_
     refine J_draw [3, 5, 7] (by kernel_rfl) ?_
     refine JAP (i := 0) rfl (rp_move rfl rfl) ?_
     refine JAP (i := 1) rfl (rp_nil rfl rfl) ?_
     refine JAP (i := 2) rfl (rp_fieldC (off' := 1) rfl rfl fa_117_1 rfl) ?_
     refine JAL (i := 3) rfl (rv_cell rfl rfl ag_115 (by repeat constructor) (by rfl)) ?_
     refine JAP (i := 4) rfl (rp_fieldC (off' := 0) rfl rfl fa_56_0 rfl) ?_
     refine JAL (i := 5) rfl (rv_cell rfl rfl ag_3 (by repeat constructor) (by rfl)) ?_
     refine JAP (i := 6) rfl (rp_fieldC (off' := 1) rfl rfl fa_56_1 rfl) ?_
     refine JAL (i := 7) rfl (rv_cell rfl rfl ag_3 (by repeat constructor) (by rfl)) ?_
     refine JAP (i := 9) rfl (rp_move rfl rfl) ?_
     refine JA_one (i := 8) (by kernel_rfl) rfl (wn0 rfl) (ow_callB (ec_fn rfl rfl cf_69) rfl rfl (fun w hw => pair69 _ _ _)) trivial (fun _ _ => ?_)
     refine JA_one (i := 10) (by kernel_rfl) rfl (wn0 rfl) (ow_put K42 E3 (min x.a x.b, max x.a x.b) ((tm : Nat) : Int) Try.underlying115 rfl rfl rfl rfl rfl rfl (congrArg (Value.int .i64) htm) (by repeat constructor) (by refine ⟨⟨?_, ?_⟩, ⟨?_, ?_⟩⟩ <;> dsimp only <;> omega) (by unfold W64; omega) (by omega)) ⟨by kernel_rfl, .inl (by kernel_rfl)⟩ (fun _ _ => ?_)
     refine JA_done (by kernel_rfl) ?_
     refine JQ_block_n ?_
     refine JQ_then_n ?_
     refine J_keep (l' := [(5, _), (6, _), (9, _), (39, _), (40, _), (41, _), (49, _), (50, _)]) ⟨rfl, rfl, rfl, rfl, rfl, rfl, rfl, rfl, trivial⟩ ?_
     refine J_reg ?_
     refine JP (rp2 rfl rfl (fun ρ hx hy w => ex_add rfl hx hy (by omega))) ?_
     refine JM rfl rfl rfl rfl rfl ?_
     refine JL_nil ?_
     have hS : sideU ⟨rt, rp, rg, rw', rf, ra, rd, rl⟩ x.p1 x.p0 x.m1 = ⟨rt, rp, rg + 1, rw' + 1, rf + x.p1, ra + x.p0, rd + 1, rl + x.m1⟩ := by unfold sideU; rw [if_pos h134]
     have hfin2 : R.set tm (sideU ⟨rt, rp, rg, rw', rf, ra, rd, rl⟩ x.p1 x.p0 x.m1) = rowsS T (fS (l.take k) x (1 + 1)) := hfin
     have hfing2 : G.set tm (max g x.m1) = gsS T (gS (l.take k) x (1 + 1)) := hfing
     rw [hS] at hfin2
     have hW : addW (1 + 1) x (wonM (l.take k)) = upd (addW 1 x (wonM (l.take k))) (min x.a x.b, max x.a x.b) ((tm : Nat) : Int) := by
      show (if x.p0 < x.p1 then upd _ (keyR x) (sdT 1 x) else _) = _
      rw [if_pos h134, hsd]; rfl
     exact JQ_round (1 + 1, N2 + 1, _) ⟨by omega, by dsimp only; omega⟩ (by dsimp only; omega) ⟨rfl, rfl, rfl, rfl, rfl, rfl, rfl, (congrArg some (by go_num)), trivial⟩ (by (try dsimp only); rw [← hfin2, ← hfing2, hW]; repeat (first | exact Pk.nil _ | (refine Pk.pick (by repeat (first | exact Rm.here _ | apply Rm.there)) ?_)))
    ·refine JA_done (by kernel_rfl) ?_
     refine JQ_then_n ?_
     refine J_no rfl rfl ?_
     refine J_skip ?_
     refine JQ_block_n ?_
     refine JQ_then_n ?_
     refine J_keep (l' := [(5, _), (6, _), (9, _), (39, _), (40, _), (41, _), (49, _), (50, _)]) ⟨rfl, rfl, rfl, rfl, rfl, rfl, rfl, rfl, trivial⟩ ?_
     refine J_reg ?_
     refine JP (rp2 rfl rfl (fun ρ hx hy w => ex_add rfl hx hy (by omega))) ?_
     refine JM rfl rfl rfl rfl rfl ?_
     refine JL_nil ?_
     have hS : sideU ⟨rt, rp, rg, rw', rf, ra, rd, rl⟩ x.p1 x.p0 x.m1 = ⟨rt, rp, rg + 1, rw', rf + x.p1, ra + x.p0, rd + 1, rl + x.m1⟩ := by unfold sideU; rw [if_neg h134]
     have hfin2 : R.set tm (sideU ⟨rt, rp, rg, rw', rf, ra, rd, rl⟩ x.p1 x.p0 x.m1) = rowsS T (fS (l.take k) x (1 + 1)) := hfin
     have hfing2 : G.set tm (max g x.m1) = gsS T (gS (l.take k) x (1 + 1)) := hfing
     rw [hS] at hfin2
     have hW : addW (1 + 1) x (wonM (l.take k)) = addW 1 x (wonM (l.take k)) := by
      show (if x.p0 < x.p1 then _ else _) = _
      rw [if_neg h134]
     exact JQ_round (1 + 1, N2, c2) ⟨by omega, by dsimp only; omega⟩ (by dsimp only; omega) ⟨rfl, rfl, rfl, rfl, rfl, rfl, rfl, (congrArg some (by go_num)), trivial⟩ (by (try dsimp only); rw [← hfin2, ← hfing2, hW]; repeat (first | exact Pk.nil _ | (refine Pk.pick (by repeat (first | exact Rm.here _ | apply Rm.there)) ?_)))
   ·subst h0
    refine J_reg ?_
    refine JP (rp2 rfl rfl (fun ρ hx hy w => ex_lssD rfl hx hy)) ?_
    refine JL_decF (by omega) ?_
    refine JL_nil ?_
    refine JQ_then_n ?_
    refine J_seq ?_
    refine J_no rfl rfl ?_
    refine J_exit ?_
    refine JQ_then_x ?_
    refine JQ_then_x ?_
    refine JQ_block_y rfl ?_
    refine JQ_block_n ?_
    refine JQ_then_n ?_
    refine J_keep (l' := [(5, _), (6, _), (39, _), (40, _), (41, _)]) ⟨rfl, rfl, rfl, rfl, rfl, trivial⟩ ?_
    refine J_reg ?_
    refine JP (rp2 rfl rfl (fun ρ hx hy w => ex_add rfl hx hy (by omega))) ?_
    refine JM rfl rfl rfl rfl rfl ?_
    refine JL_nil ?_
    exact JQ_round (k + 1, N2, c2) ⟨by omega, by dsimp only; omega⟩ (by dsimp only; omega) ⟨rfl, rfl, rfl, rfl, (congrArg some (by go_num)), trivial⟩ (by (try dsimp only); rw [htk, show rawN (l.take k ++ [x]) = fS (l.take k) x 2 from funext fun t => rawN_snoc _ _ _, show gtN (l.take k ++ [x]) = gS (l.take k) x 2 from funext fun t => gtN_snoc _ _ _, wonM_snoc]; repeat (first | exact Pk.nil _ | (refine Pk.pick (by repeat (first | exact Rm.here _ | apply Rm.there)) ?_)))
  ·refine JL_nil ?_
   refine JQ_then_n ?_
   refine J_seq ?_
   refine J_no rfl rfl ?_
   refine J_exit ?_
   refine JQ_then_x ?_
   refine JQ_then_x ?_
   refine JQ_block_y rfl ?_
   refine JQ_then_n ?_
   refine J_seq ?_
   refine J_seq ?_
   have hk' : k = l.length := by omega
   subst hk'
   rw [List.take_length]
   refine J_keep (l' := [(5, _), (6, _)]) ⟨rfl, rfl, trivial⟩ ?_
   refine J_reg ?_
   refine JM rfl rfl rfl rfl rfl ?_
   refine JP (rp_nil rfl rfl) ?_
   refine JP (rp_fieldC (off' := 0) rfl rfl fa_117_0 rfl) ?_
   refine JV (rv_cell rfl rfl ag_45 (by repeat constructor) (by rfl)) ?_
   refine JP (rp1 rfl (fun ρ hx w => ex_len (A := _) (c := _) rfl Try.underlying45 hx)) ?_
   refine JM rfl rfl rfl rfl rfl ?_
   refine JL_nil ?_
   refine JQ_then_n ?_
   refine J_block ?_
   refine J_loop (T := Nat) (fun j => j ≤ T) (fun j => [(5, .pointer (some ⟨b19, 0, none⟩)), (6, .slice (some ⟨b21, 0, none⟩) T T), (158, .int .i64 (T : Nat)), (159, .int .i64 (j : Nat))]) (fun j => [ownB 3 1 (some ⟨b21, 0, none⟩) T T ((gsS T (gtN l)).flatMap eI), cellB b19 [.slice (some ⟨b16, 0, none⟩) T T, .map (some b17)] 117, mapB 42 3 kP W2 dI b17 N c (wonM l), ownB 58 8 (some ⟨b16, 0, none⟩) T T ((rowsS T fun t => if t < (j : Int) then rowN l t else rawN l t).flatMap eW)]) (fun j => T - j) 0 (Nat.zero_le _) ⟨rfl, rfl, rfl, rfl, trivial⟩ (by repeat constructor) ?_
   intro j hj
   refine J_seq ?_
   refine J_reg ?_
   refine JP (rp2 rfl rfl (fun ρ hx hy w => ex_lssD rfl hx hy)) ?_
   refine JL_dec (fun h160 => ?_) (fun h160 => ?_)
   ·refine JL_nil ?_
    refine JQ_then_n ?_
    refine J_seq ?_
    refine J_yes rfl rfl ?_
    refine J_skip ?_
    refine JQ_then_n ?_
    refine J_seq ?_
    refine J_block ?_
    refine J_seq ?_
    have hjT : j < T := by omega
    have hrb : RwB (rawN l j) (gtN l j) (2 * l.length) := raw_b l j (fun y hy => (vld_b (hok y hy)).1)
    have hset := rowsS_set T (fun t => if t < (j : Int) then rowN l t else rawN l t) (fun t => if t < ((j + 1 : Nat) : Int) then rowN l t else rawN l t) j (fun t ht => by
     by_cases e : t = j
     ·subst e; simp
     ·rw [if_neg e]
      by_cases h : (t : Int) < j
      ·rw [if_pos h, if_pos (by omega)]
      ·rw [if_neg h, if_neg (by omega)])
    rw [if_pos (by omega)] at hset
    have eR := rows_focus T (fun t => if t < (j : Int) then rowN l t else rawN l t) j hjT
    rw [if_neg (by omega)] at eR
    have eG := gs_focus T (gtN l) j hjT
    have hlR := rowsS_len T (fun t => if t < (j : Int) then rowN l t else rawN l t)
    have hlG := gsS_len T (gtN l)
    have hcut : rowN l j = cutR (rawN l j) (gtN l j) := rfl
    rw [eR, eG]
    generalize rawN l j = r at hrb hcut ⊢
    obtain ⟨g0, d0, w0, f0, l0', l0, mm0, ml, -, -⟩ := hrb
    obtain ⟨rt, rp, rg, rw', rf, ra, rd, rl⟩ := r
    simp only at g0 d0 w0 f0 l0' l0 ml
    refine J_reg ?_
    refine JM rfl rfl rfl rfl rfl ?_
    refine JN rfl rfl rfl rfl rfl ?_
    refine JL_nil ?_
    refine JQ_then_n ?_
    refine J_seq ?_
    refine J_reg ?_
    refine JM rfl rfl rfl rfl rfl ?_
    refine JP (rp_nil rfl rfl) ?_
    refine JP (rp_fieldC (off' := 0) rfl rfl fa_117_0 rfl) ?_
    refine JV (rv_cell rfl rfl ag_45 (by repeat constructor) (by rfl)) ?_
    refine JM rfl rfl rfl rfl rfl ?_
    refine JP (rp2 rfl rfl (fun ρ hx hy w => ex_indexE rfl hx hy Try.underlying45 sz_58 (by omega))) ?_
    refine JN rfl rfl rfl rfl rfl ?_
    refine JL_nil ?_
    refine JQ_then_n ?_
    refine J_seq ?_
    refine J_keep (l' := [(5, _), (6, _), (13, _), (14, _), (158, _), (159, _)]) ⟨rfl, rfl, rfl, rfl, rfl, rfl, trivial⟩ ?_
    refine J_reg ?_
    refine JM rfl rfl rfl rfl rfl ?_
    refine JP (rp_nil rfl rfl) ?_
    refine JP (rp_fieldE (i' := 2) rfl rfl fa_58_2 rfl) ?_
    refine JV (rv_ownSet EW rfl rfl ag_3 (by repeat constructor) (by omega) (by omega) (by dsimp only [eW]; rfl)) ?_
    refine JP (rp2 rfl rfl (fun ρ hx hy w => ex_geqD rfl hx hy)) ?_
    refine JL_dec (fun h172 => ?_) (fun h172 => ?_)
    ·refine JL_nil ?_
     refine JQ_then_n ?_
     refine J_yes rfl rfl ?_
     refine J_keep (l' := [(5, _), (6, _), (13, _), (14, _), (158, _), (159, _)]) ⟨rfl, rfl, rfl, rfl, rfl, rfl, trivial⟩ ?_
     refine J_draw [5, 10, 14] (by kernel_rfl) ?_
     refine JAP (i := 0) rfl (rp_move rfl rfl) ?_
     refine JAP (i := 1) rfl (rp_move rfl rfl) ?_
     refine JAP (i := 2) rfl (rp_move rfl rfl) ?_
     refine JAP (i := 3) rfl (rp_nil rfl rfl) ?_
     refine JAP (i := 4) rfl (rp_fieldE (i' := 6) rfl rfl fa_58_6 rfl) ?_
     refine JAL (i := 5) rfl (rv_ownSet EW rfl rfl ag_3 (by repeat constructor) (by omega) (by omega) (by dsimp only [eW]; rfl)) ?_
     refine JAP (i := 6) rfl (rp2 rfl rfl (fun ρ hx hy w => ex_sub rfl hx hy (by omega))) ?_
     refine JAP (i := 7) rfl (rp_move rfl rfl) ?_
     refine JAP (i := 8) rfl (rp_nil rfl rfl) ?_
     refine JAP (i := 9) rfl (rp_fieldE (i' := 7) rfl rfl fa_58_7 rfl) ?_
     refine JAL (i := 10) rfl (rv_ownSet EW rfl rfl ag_3 (by repeat constructor) (by omega) (by omega) (by dsimp only [eW]; rfl)) ?_
     refine JAP (i := 11) rfl (rp_move rfl rfl) ?_
     refine JAP (i := 12) rfl (rp_move rfl rfl) ?_
     refine JAP (i := 13) rfl (rp2 rfl rfl (fun ρ hx hy w => ex_indexE rfl hx hy Try.underlying26 sz_3 (by omega))) ?_
     refine JAL (i := 14) rfl (rv_ownSet EI rfl rfl ag_3 (by repeat constructor) (by omega) (by omega) (by dsimp only [eI]; rfl)) ?_
     refine JAP (i := 15) rfl (rp2 rfl rfl (fun ρ hx hy w => ex_sub rfl hx hy (by omega))) ?_
     refine JAP (i := 16) rfl (rp_nil rfl rfl) ?_
     refine JAP (i := 17) rfl (rp_fieldE (i' := 6) rfl rfl fa_58_6 rfl) ?_
     refine JA_one (i := 18) (by kernel_rfl) rfl (wn0 rfl) (ow_storeSet (cs := [_]) (r' := ⟨_, _, _, _, _, _, _, _⟩) EW rfl rfl rfl rfl rfl sz_3 rfl (by repeat constructor) (by omega) (Nat.le_of_ble_eq_true rfl) (by dsimp only [eW]; rfl)) ⟨by kernel_rfl, .inl (by kernel_rfl)⟩ (fun _ _ => ?_)
     refine JAP (i := 19) rfl (rp_nil rfl rfl) ?_
     refine JAP (i := 20) rfl (rp_fieldE (i' := 7) rfl rfl fa_58_7 rfl) ?_
     refine JA_one (i := 21) (by kernel_rfl) rfl (wn0 rfl) (ow_storeSet (cs := [_]) (r' := ⟨_, _, _, _, _, _, _, _⟩) EW rfl rfl rfl rfl rfl sz_3 rfl (by repeat constructor) (by omega) (Nat.le_of_ble_eq_true rfl) (by dsimp only [eW]; rfl)) ⟨by kernel_rfl, .inl (by kernel_rfl)⟩ (fun _ _ => ?_)
     refine JA_done (by kernel_rfl) ?_
     refine JQ_block_n ?_
     refine JQ_then_n ?_
     refine J_keep (l' := [(5, _), (6, _), (158, _), (159, _)]) ⟨rfl, rfl, rfl, rfl, trivial⟩ ?_
     refine J_reg ?_
     refine JP (rp2 rfl rfl (fun ρ hx hy w => ex_add rfl hx hy (by omega))) ?_
     refine JM rfl rfl rfl rfl rfl ?_
     refine JL_nil ?_
     have hC : rowN l j = ⟨rt, rp, rg, rw', rf, ra, rd - 1, rl - gtN l j⟩ := by rw [hcut]; unfold cutR; rw [if_pos h172]
     rw [hC] at hset
     exact JQ_round (j + 1) (by omega) (by omega) ⟨rfl, rfl, rfl, (congrArg some (by go_num)), trivial⟩ (by (try dsimp only); rw [← hset, eG]; repeat (first | exact Pk.nil _ | (refine Pk.pick (by repeat (first | exact Rm.here _ | apply Rm.there)) ?_)))
    ·refine JL_nil ?_
     refine JQ_then_n ?_
     refine J_no rfl rfl ?_
     refine J_skip ?_
     refine JQ_block_n ?_
     refine JQ_then_n ?_
     refine J_keep (l' := [(5, _), (6, _), (158, _), (159, _)]) ⟨rfl, rfl, rfl, rfl, trivial⟩ ?_
     refine J_reg ?_
     refine JP (rp2 rfl rfl (fun ρ hx hy w => ex_add rfl hx hy (by omega))) ?_
     refine JM rfl rfl rfl rfl rfl ?_
     refine JL_nil ?_
     have hC : rowN l j = ⟨rt, rp, rg, rw', rf, ra, rd, rl⟩ := by rw [hcut]; unfold cutR; rw [if_neg h172]
     rw [hC] at hset
     exact JQ_round (j + 1) (by omega) (by omega) ⟨rfl, rfl, rfl, (congrArg some (by go_num)), trivial⟩ (by (try dsimp only); rw [← hset, eG]; repeat (first | exact Pk.nil _ | (refine Pk.pick (by repeat (first | exact Rm.here _ | apply Rm.there)) ?_)))
   ·refine JL_nil ?_
    refine JQ_then_n ?_
    refine J_seq ?_
    refine J_no rfl rfl ?_
    refine J_exit ?_
    refine JQ_then_x ?_
    refine JQ_then_x ?_
    refine JQ_block_y rfl ?_
    refine JQ_then_n ?_
    refine J_seq ?_
    have e30 : (rowsS T fun t => if t < (j : Int) then rowN l t else rawN l t) = rowsS T (rowN l) := by
     unfold rowsS
     refine List.map_congr_left (fun t ht => ?_)
     have := List.mem_range.1 ht
     exact if_pos (by omega)
    rw [e30]
    refine J_keep (l' := [(5, _)]) ⟨rfl, trivial⟩ ?_
    refine J_reg ?_
    refine JM rfl rfl rfl rfl rfl ?_
    refine JN rfl rfl rfl rfl rfl ?_
    refine JL_nil ?_
    refine JQ_then_n ?_
    refine J_ret ?_
    refine JR_one rfl (rr_tmp rfl) ?_
    intro w' hw
    exact ⟨(b19, b16, b17, N, c), (by dsimp only; omega), rfl, hw.pick (by unfold StdG; repeat (first | exact Pk.nil _ | (refine Pk.pick (by repeat (first | exact Rm.here _ | apply Rm.there)) ?_)))⟩
end Go.Proofs.Ytlfbbofcnonhdaa
