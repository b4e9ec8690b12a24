/- Layers of the proofs, joined: Ta Tb Tc Td Te Tf Tg R3 R5 R4 R6 Va R7 Vb Vc. -/
import Derived.Test.YtmcpnoailbmkkaaPk3
/- Layer 2: the stones in the house. -/
namespace Go.Proofs.Ytmcpnoailbmkkaa
open Go Go.RowKit Go.Proofs
attribute [local irreducible] J JQ JL JA JD

/-- Numbers that are not negative, as elements. -/
def eN (n : Nat) : List Value := [.int .i64 (n : Nat)]
theorem EN : Enc 1 eN := ⟨fun _ => rfl, fun x v h => by simp [eN] at h; subst h; rfl⟩
/-- The places, among the first k, of the stones in the house. -/
def hsN (l : List St) (k : Nat) : List Nat := (List.range k).filter (fun i => decide (InH (l.getD i ⟨0, 0, 0, 0⟩).x (l.getD i ⟨0, 0, 0, 0⟩).y))
theorem hsN_s {l : List St} {k : Nat} {x : St} (hk : k < l.length) (hx : l[k]'hk = x) : hsN l (k + 1) = if InH x.x x.y then hsN l k ++ [k] else hsN l k := by
 unfold hsN
 rw [List.range_succ, List.filter_append, List.filter_cons, List.filter_nil]
 have e : l.getD k ⟨0, 0, 0, 0⟩ = x := by rw [List.getD_eq_getElem?_getD, List.getElem?_eq_getElem hk, hx]; rfl
 rw [e]
 by_cases h : InH x.x x.y
 ·rw [if_pos h, decide_eq_true h, if_pos rfl]
 ·rw [if_neg h, decide_eq_false h, if_neg (by decide), List.append_nil]
theorem hsN_len (l : List St) (k : Nat) : (hsN l k).length ≤ k := Nat.le_trans (List.length_filter_le _ _) (by rw [List.length_range]; exact Nat.le_refl _)
theorem hsN_pre (l : List St) {k n : Nat} (h : k ≤ n) : hsN l k <+: hsN l n := by
 induction n with
 | zero => rw [Nat.le_zero.1 h]; exact List.prefix_refl _
 | succ n ih =>
  rcases Nat.lt_or_ge k (n + 1) with h1 | h1
  ·refine (ih (by omega)).trans ?_
   unfold hsN
   rw [List.range_succ, List.filter_append]
   exact List.prefix_append _ _
  ·obtain rfl : k = n + 1 := by omega
   exact List.prefix_refl _
/-- All of them. -/
def hsA (l : List St) : List Nat := hsN l l.length
theorem hsA_take {l : List St} {k : Nat} (h : k ≤ l.length) : (hsA l).take (hsN l k).length = hsN l k := (List.prefix_iff_eq_take.1 (hsN_pre l h)).symm
theorem hsA_at {l : List St} {k : Nat} {x : St} (hk : k < l.length) (hx : l[k]'hk = x) (hi : InH x.x x.y) : (hsN l k).length < (hsA l).length ∧ (hsA l)[(hsN l k).length]? = some k := by
 have h1 := hsN_pre l (show k + 1 ≤ l.length by omega)
 rw [hsN_s hk hx, if_pos hi] at h1
 have h2 := h1.length_le
 rw [List.length_append] at h2
 have h3 : (hsN l k).length < (hsA l).length := Nat.lt_of_lt_of_le (Nat.lt_succ_self _) h2
 refine ⟨h3, ?_⟩
 obtain ⟨r, hr⟩ := h1
 unfold hsA
 rw [← hr, List.append_assoc, List.getElem?_append_right (Nat.le_refl _), Nat.sub_self]; rfl
theorem hs_mem {l : List St} {i k : Nat} (h : i ∈ hsN l k) : i < k ∧ InH (l.getD i ⟨0, 0, 0, 0⟩).x (l.getD i ⟨0, 0, 0, 0⟩).y := by
 unfold hsN at h
 rw [List.mem_filter, List.mem_range] at h
 exact ⟨h.1, of_decide_eq_true h.2⟩
/-- The state of a loop over them: how many were given; a row. -/
structure HsT where
 n : Nat
 A : Option Addr
 c : Nat
abbrev hsX (l : List St) (n : Nat) : List Nat := (hsA l).take n
set_option maxRecDepth 100000 in
set_option maxHeartbeats 4000000 in
theorem housed_any (A : Option Addr) (n cap : Nat) (w : World) : Calls Try.prog 40 #[.slice A n cap] w (Ret w (fun _ : Nat => True) (fun b => .func (.func 60) #[] #[.pointer (some ⟨b, 0, none⟩)]) (fun b => [cellB b [.slice A n cap] 32])) := by
 refine J_enter (fun _ => False) (vs := [.slice A n cap]) (k := 3) (l := [(0, .slice A n cap)]) Try.func40 rfl rfl Try.ntmps40 rfl rfl (Wd.start _) ?_
 refine s2 ?_
 refine aW (oX [_]) (fun b1 hb1 => ?_)
 refine s10 ?_
 refine JR_one rfl (rr_tmp rfl) ?_
 intro w' hw
 exact ⟨b1, trivial, rfl, hw.pick (by repeat constructor)⟩
set_option maxRecDepth 100000 in
set_option maxHeartbeats 4000000 in
theorem housed1_any (l : List St) (A : Option Addr) (cap bh b3 : Nat) (w0 : World) (E1 : It) (hrow : Arr 4 eT w0 (.slice A l.length cap) l) (hok : ∀ s ∈ l, OkS s.x s.y) : Itr2 Try.prog (T := HsT) (Y := Nat × St) 60 #[.pointer (some ⟨bh, 0, none⟩)] ⟨w0, fun _ => False, none, []⟩ (fun t => t.n ≤ (hsA l).length) (fun t X => [cellB bh [.slice A l.length cap] 32, E1, cellB b3 [.slice t.A (hsX l t.n).length t.c] 25, ownB 3 1 t.A (hsX l t.n).length t.c ((hsX l t.n).flatMap eN), X]) (fun t y => (hsA l)[t.n]? = some y.1 ∧ l[y.1]? = some y.2) (fun y => .int .i64 (y.1 : Nat)) (fun y => Stv y.2) (fun t _ X => [cellB bh [.slice A l.length cap] 32, E1, cellB b3 [.slice t.A (hsX l t.n).length t.c] 25, ownB 3 1 t.A (hsX l t.n).length t.c ((hsX l t.n).flatMap eN), X]) (fun t t' => t'.n = t.n + 1) (fun t => t.n = (hsA l).length) (fun t => t.n = 0) := by
 intro lp X t0 W h0 hn0 hW hY
 obtain ⟨A', cap', e0, -, ⟨hl, -⟩, hAl⟩ := hrow
 obtain ⟨rfl, -, rfl⟩ : A = A' ∧ True ∧ cap = cap' := by injection e0 with e1 _ e3; exact ⟨e1, trivial, e3⟩
 refine J_start (B := ⟨w0, fun _ => False, none, []⟩) rfl rfl (vs := [.func (.yield lp) #[] #[], .pointer (some ⟨bh, 0, none⟩)]) (k := 22) (l := [(0, .func (.yield lp) #[] #[]), (1, .pointer (some ⟨bh, 0, none⟩))]) Try.func60 rfl rfl Try.ntmps60 rfl rfl (hW) ?_
 refine s8 ?_
 refine xL (T := Nat × HsT) (fun q => q.1 ≤ l.length ∧ (hsN l q.1).length = q.2.n ∧ q.2.n ≤ (hsA l).length) (fun q => [(0, .func (.yield lp) #[] #[]), (5, .slice A l.length cap), (6, .int .i64 (l.length : Nat)), (7, .int .i64 (q.1 : Nat))]) (fun q => [cellB bh [.slice A l.length cap] 32, E1, cellB b3 [.slice q.2.A (hsX l q.2.n).length q.2.c] 25, ownB 3 1 q.2.A (hsX l q.2.n).length q.2.c ((hsX l q.2.n).flatMap eN), X]) (fun q => l.length - q.1) (0, t0) ⟨Nat.zero_le _, by rw [hn0]; rfl, h0⟩ ?_
 rintro q ⟨hq1, hq2, hq3⟩
 obtain ⟨k, hk⟩ : ∃ k, q.1 = k := ⟨_, rfl⟩
 rw [hk] at hq1 hq2 ⊢
 refine s3 ?_
 refine JL_dec (fun h8 => ?_) (fun h8 => ?_)
 ·refine s9 ?_
  have hltx : k < l.length := by omega
  obtain ⟨bx, qx, rfl, hh⟩ := hAl (by intro e; subst e; simp at hltx)
  obtain ⟨⟨xt, xn, xx, xy⟩, hx⟩ : ∃ y, l[k]'hltx = y := ⟨_, rfl⟩
  have hmx : (⟨xt, xn, xx, xy⟩ : St) ∈ l := by rw [← hx]; exact List.getElem_mem _
  refine s3 ?_
  refine aV (vHoldA (cs := [.int .i64 xt, .int .i64 xn, .int .i64 xx, .int .i64 xy]) ET rfl rfl (fun h => h) hh hltx (by rw [hx]; rfl)) ?_
  refine aW oA (fun b4 hb4 => ?_)
  refine s5 ?_
  by_cases hin : InH xx xy
  ·refine kJ [(0, _), (3, _), (4, _), (5, _), (6, _), (7, _)] ?_
   refine J_regI ?_
   refine iV (RP.rv pAny) ?_
   refine iV vAny ?_
   refine iC (ecF rfl rfl) (fun w hw => zone_any xx xy (hok _ hmx) w) ?_
   refine iV (RP.rv gBin) ?_
   refine iKT ((zone_house xx xy).2 hin) ?_
   refine iV (RP.rv (rp_move rfl rfl)) ?_
   refine iV (RP.rv (rp_move rfl rfl)) ?_
   refine iV (RP.rv (rp_move rfl rfl)) ?_
   refine iV vAny ?_
   refine iY2 (T := HsT) (φ := fun t' => t'.n = q.2.n + 1 ∧ t'.n ≤ (hsA l).length) (HH := fun t' => [cellB bh [.slice (some ⟨bx, qx, none⟩) l.length cap] 32, E1, cellB b3 [.slice t'.A (hsX l t'.n).length t'.c] 25, ownB 3 1 t'.A (hsX l t'.n).length t'.c ((hsX l t'.n).flatMap eN), X]) (fun W1 hW1 m => YieldAt.mono' (hY q.2 (k, (⟨xt, xn, xx, xy⟩ : St)) W1 hq3 ⟨by dsimp only; rw [← hq2]; exact (hsA_at hltx hx hin).2, by dsimp only; rw [List.getElem?_eq_getElem hltx, hx]⟩ (hW1.pick (by repeat constructor)) m) (fun e W2 h => ⟨h.1, h.2.imp fun t' h => ⟨⟨h.1, h.2.1⟩, h.2.2⟩⟩)) (fun t' ht' => ?_)
   obtain ⟨hRn, ht2⟩ := ht'
   refine iV (RP.rv (pNot rfl rfl)) ?_
   refine iV (RP.rv pAny) ?_
   refine iN ?_
   refine s5 ?_
   refine kJ [(0, _), (5, _), (6, _), (7, _)] ?_
   refine s4 ?_
   have hs := hsN_s hltx hx
   rw [if_pos hin] at hs
   exact xR (k + 1, t') ⟨by dsimp only; omega, by dsimp only; rw [hs, List.length_append, hRn, hq2]; rfl, ht2⟩ (by dsimp only; omega) (hl := ⟨rfl, rfl, rfl, (congrArg some (by go_num)), trivial⟩)
  ·refine kJ [(0, _), (3, _), (4, _), (5, _), (6, _), (7, _)] ?_
   refine s3 ?_
   refine aCB (fun w hw => zone_any xx xy (hok _ hmx) w) ?_
   refine s1 ?_
   refine aDecF ?_ (fun h => hin ((zone_house xx xy).1 h))
   refine s13 ?_
   refine kJ [(0, _), (5, _), (6, _), (7, _)] ?_
   refine s4 ?_
   have hs := hsN_s hltx hx
   rw [if_neg hin] at hs
   exact xR (k + 1, q.2) ⟨by dsimp only; omega, by dsimp only; rw [hs]; exact hq2, hq3⟩ (by dsimp only; omega) (hl := ⟨rfl, rfl, rfl, (congrArg some (by go_num)), trivial⟩)
 ·refine s8 ?_
  refine JR_end rfl ?_
  intro w' hw
  obtain rfl : k = l.length := by omega
  exact ⟨⟨_, rfl⟩, q.2, hq3, hq2.symm, hw.pick (by repeat constructor)⟩
end Go.Proofs.Ytmcpnoailbmkkaa
/- Layer 2: the nearest stones. -/
namespace Go.Proofs.Ytmcpnoailbmkkaa
open Go Go.RowKit Go.Proofs
attribute [local irreducible] J JQ JL JA JD

/-- The square of the distance of a stone by its place. -/
def sqAt (l : List St) (i : Nat) : Int := sqd (l.getD i ⟨0, 0, 0, 0⟩).x (l.getD i ⟨0, 0, 0, 0⟩).y
theorem sqAt_get {l : List St} {i : Nat} {x : St} (h : i < l.length) (hx : l[i]'h = x) : sqAt l i = sqd x.x x.y := by
 unfold sqAt; rw [List.getD_eq_getElem?_getD, List.getElem?_eq_getElem h, hx]; rfl
def cmp3 (a b : Int) : Int := if a < b then -1 else if b < a then 1 else 0
/-- Nearer, or as near and earlier. -/
def lx (key : Nat → Int) (a b : Nat) : Prop := key a < key b ∨ (key a = key b ∧ a < b)
theorem lx_trans {key : Nat → Int} {a b c : Nat} (h : lx key a b) (h' : lx key b c) : lx key a c := by unfold lx at *; omega
theorem swap_list {P R : List Nat} {p x : Nat} : ((P ++ p :: x :: R).set (P.length + 1) p).set P.length x = P ++ x :: p :: R := by
  rw [List.set_append_right _ _ (by omega)]
  have e : P.length + 1 - P.length = 1 := by omega
  rw [e]
  show (P ++ p :: p :: R).set P.length x = _
  rw [List.set_append_right _ _ (Nat.le_refl _), Nat.sub_self]
  rfl
theorem ins_sorted {key : Nat → Int} {P Q : List Nat} {x : Nat} (hS : (P ++ Q).Pairwise (lx key)) (hQ : ∀ y ∈ Q, key x < key y) (hP : ∀ p, P.getLast? = some p → lx key p x) : (P ++ x :: Q).Pairwise (lx key) := by
  rw [List.pairwise_append] at hS ⊢
  obtain ⟨h1, h2, h3⟩ := hS
  refine ⟨h1, List.pairwise_cons.2 ⟨fun y hy => .inl (hQ y hy), h2⟩, ?_⟩
  have hPx : ∀ a ∈ P, lx key a x := by
    intro a ha
    rcases List.eq_nil_or_concat P with rfl | ⟨P', p, rfl⟩
    · cases ha
    · have hp := hP p (by simp)
      rw [List.concat_eq_append, List.mem_append] at ha
      rcases ha with ha | ha
      · rw [List.concat_eq_append, List.pairwise_append] at h1
        exact lx_trans (h1.2.2 a ha p (by simp)) hp
      · rw [List.mem_singleton] at ha; subst ha; exact hp
  intro a ha b hb
  rcases List.mem_cons.1 hb with rfl | hb
  · exact hPx a ha
  · exact h3 a ha b hb


set_option maxRecDepth 100000 in
set_option maxHeartbeats 4000000 in
theorem near1_any (l : List St) (A : Option Addr) (cap b : Nat) (i k : Nat) (w : World) (hc : (cellB b [.slice A l.length cap] 32).holds w) (hrow : Arr 4 eT w (.slice A l.length cap) l) (hi : i < l.length) (hk : k < l.length) (hp : ∀ s ∈ l, Play s.x s.y) : Calls Try.prog 42 (#[] ++ #[.int .i64 (i : Nat), .int .i64 (k : Nat)] ++ #[.pointer (some ⟨b, 0, none⟩)]) w (Back (.int .i64 (cmp3 (sqAt l i) (sqAt l k))) w) := by
 obtain ⟨A', cap', e0, -, ⟨hl, -⟩, hAl⟩ := hrow
 obtain ⟨rfl, -, rfl⟩ : A = A' ∧ True ∧ cap = cap' := by injection e0 with e1 _ e3; exact ⟨e1, trivial, e3⟩
 obtain ⟨bx, qx, rfl, hh⟩ := hAl (by intro e; subst e; simp at hi)
 have hltx : i < l.length := hi
 obtain ⟨⟨xt, xn, xx, xy⟩, hx⟩ : ∃ y, l[i]'hltx = y := ⟨_, rfl⟩
 have hmx : (⟨xt, xn, xx, xy⟩ : St) ∈ l := by rw [← hx]; exact List.getElem_mem _
 have hlty : k < l.length := hk
 obtain ⟨⟨yt, yn, yx, yy⟩, hy⟩ : ∃ y, l[k]'hlty = y := ⟨_, rfl⟩
 have hmy : (⟨yt, yn, yx, yy⟩ : St) ∈ l := by rw [← hy]; exact List.getElem_mem _
 refine J_enter (fun _ => False) (vs := [.int .i64 (i : Nat), .int .i64 (k : Nat), .pointer (some ⟨b, 0, none⟩)]) (k := 25) (l := [(0, .int .i64 (i : Nat)), (1, .int .i64 (k : Nat)), (2, .pointer (some ⟨b, 0, none⟩))]) Try.func42 rfl rfl Try.ntmps42 rfl rfl (Wd.start _) ?_
 refine s6 ?_
 refine xD [0, 1, 2, 3, 4, 6, 7, 8, 9, 10, 5, 11, 12, 13] [0, 4, 6, 10] ?_
 refine dL rfl (vOld rfl rfl (fun h => h) (cellB_get hc rfl)) ?_
 refine s1 ?_
 refine dP rfl (pIdxI (i) rfl rfl rfl) ?_
 refine s1 ?_
 refine dL rfl (vHoldP (i := 2) (m := 2) (cs := [.int .i64 xx, .int .i64 xy]) rfl rfl (fun h => h) hh hltx rfl (by omega) (by rw [hx]; rfl)) ?_
 refine dL rfl (vOld rfl rfl (fun h => h) (cellB_get hc rfl)) ?_
 refine s1 ?_
 refine dP rfl (pIdxI (k) rfl rfl rfl) ?_
 refine s1 ?_
 refine dL rfl (vHoldP (i := 2) (m := 2) (cs := [.int .i64 yx, .int .i64 yy]) rfl rfl (fun h => h) hh hlty rfl (by omega) (by rw [hy]; rfl)) ?_
 refine dCB rfl (fun w hw => square_any xx xy (play_bound (hp _ hmx)) w) ?_
 refine dCB rfl (fun w hw => square_any yx yy (play_bound (hp _ hmy)) w) ?_
 refine s7 ?_
 refine kJ [(6, _), (7, _)] ?_
 refine s4 ?_
 refine JL_dec (fun h23 => ?_) (fun h23 => ?_)
 ·refine s5 ?_
  refine kJ [] ?_
  refine s7 ?_
  refine JR_one rfl (rr_tmp rfl) ?_
  intro w' hw
  exact ⟨by rw [sqAt_get hltx hx, sqAt_get hlty hy]; unfold cmp3; rw [if_pos h23], hw.bel⟩
 ·refine s5 ?_
  refine kJ [(6, _), (7, _)] ?_
  refine s4 ?_
  refine JL_dec (fun h27 => ?_) (fun h27 => ?_)
  ·refine s5 ?_
   refine kJ [] ?_
   refine s7 ?_
   refine JR_one rfl (rr_tmp rfl) ?_
   intro w' hw
   exact ⟨by rw [sqAt_get hltx hx, sqAt_get hlty hy]; unfold cmp3; rw [if_neg h23, if_pos h27], hw.bel⟩
  ·refine s8 ?_
   refine kJ [] ?_
   refine s5 ?_
   refine JR_one rfl (rr_tmp rfl) ?_
   intro w' hw
   exact ⟨by rw [sqAt_get hltx hx, sqAt_get hlty hy]; unfold cmp3; rw [if_neg h23, if_neg h27], hw.bel⟩
set_option maxRecDepth 100000 in
set_option maxHeartbeats 4000000 in
theorem insertion_any (f : FuncId) (caps : Array Value) (key : Nat → Int) (d : List Nat) (g c : Nat) (w : World) [hf : Cf Try.prog f] (hA : (ownB 3 1 (some ⟨g, 0, none⟩) d.length c ((d).flatMap eN)).holds w) (hAf : ∀ b, (ownB 3 1 (some ⟨g, 0, none⟩) d.length c ((d).flatMap eN)).foot b → b < w.heap.size) (hinc : d.Pairwise (· < ·)) (hd20 : d.length ≤ 20) (hcl : ∀ i k : Nat, i ∈ d → k ∈ d → ∀ W, Wd ⟨w, (ownB 3 1 (some ⟨g, 0, none⟩) d.length c ((d).flatMap eN)).foot, none, []⟩ [] W → Calls Try.prog f (#[] ++ #[.int .i64 (i : Nat), .int .i64 (k : Nat)] ++ caps) W (Back (.int .i64 (cmp3 (key i) (key k))) W)) : Calls Try.prog 78 #[.slice (some ⟨g, 0, none⟩) d.length c, .int .i64 0, .int .i64 (d.length : Nat), .func (.func f) #[] caps] w (RetM (ownB 3 1 (some ⟨g, 0, none⟩) d.length c ((d).flatMap eN)) (fun d' : List Nat => d'.Perm d ∧ d'.Pairwise (lx key)) (fun _ => .tuple #[]) (fun d' => ownB 3 1 (some ⟨g, 0, none⟩) d'.length c ((d').flatMap eN)) w) := by
 refine J_start (B := ⟨w, (ownB 3 1 (some ⟨g, 0, none⟩) d.length c ((d).flatMap eN)).foot, none, []⟩) rfl rfl (vs := [.slice (some ⟨g, 0, none⟩) d.length c, .int .i64 0, .int .i64 (d.length : Nat), .func (.func f) #[] caps]) (k := 49) (l := [(0, .slice (some ⟨g, 0, none⟩) d.length c), (1, .int .i64 0), (2, .int .i64 (d.length : Nat)), (3, .func (.func f) #[] caps)]) Try.func78 rfl rfl Try.ntmps78 rfl rfl (Wd.startM hA hAf) ?_
 refine s8 ?_
 refine xL (T := Nat × List Nat) (fun q => 1 ≤ q.1 ∧ (q.1 ≤ d.length ∨ d.length = 0) ∧ q.2.Perm (d.take q.1) ∧ q.2.Pairwise (lx key)) (fun q => [(0, .slice (some ⟨g, 0, none⟩) d.length c), (1, .int .i64 0), (2, .int .i64 (d.length : Nat)), (3, .func (.func f) #[] caps), (8, .int .i64 (q.1 : Nat))]) (fun q => [ownB 3 1 (some ⟨g, 0, none⟩) d.length c ((q.2 ++ d.drop q.1).flatMap eN)]) (fun q => d.length - q.1) (1, d.take 1) ⟨Nat.le_refl _, by dsimp only; omega, List.Perm.refl _, by dsimp only; cases d with | nil => simp | cons a d => simp⟩ ?_ (hl := ⟨rfl, rfl, rfl, rfl, (congrArg some (by go_num)), trivial⟩) (hH := by (try dsimp only); rw [List.take_append_drop]; repeat constructor)
 rintro ⟨i, S⟩ ⟨hi1, hi2, hS1, hS2⟩
 dsimp only at hi1 hi2 hS1 hS2 ⊢
 refine s6 ?_
 refine JL_dec (fun h14 => ?_) (fun h14 => ?_)
 ·refine s8 ?_
  have hltx : i < d.length := by omega
  obtain ⟨x, hx⟩ : ∃ x, d[i]'hltx = x := ⟨_, rfl⟩
  obtain ⟨T, hT⟩ : ∃ T, d.drop (i + 1) = T := ⟨_, rfl⟩
  have hdr : d.drop i = x :: T := by rw [List.drop_eq_getElem_cons hltx, hx, hT]
  have hlen : S.length = i := by rw [hS1.length_eq, List.length_take]; omega
  have hxm : x ∈ d := by rw [← hx]; exact List.getElem_mem _
  have hgt : ∀ y ∈ S, y < x ∧ y ∈ d := fun y hy => by
   have hy2 := hS1.mem_iff.1 hy
   refine ⟨?_, List.mem_of_mem_take hy2⟩
   have h := hinc
   rw [← List.take_append_drop i d, List.pairwise_append] at h
   exact h.2.2 y hy2 x (by rw [hdr]; simp)
  have hdl : d.length = i + 1 + T.length := by rw [← hT, List.length_drop]; omega
  refine s6 ?_
  refine xL (T := List Nat × List Nat) (fun q => q.1 ++ q.2 = S ∧ ∀ y ∈ q.2, key x < key y) (fun q => [(0, .slice (some ⟨g, 0, none⟩) d.length c), (1, .int .i64 0), (2, .int .i64 (d.length : Nat)), (3, .func (.func f) #[] caps), (8, .int .i64 (i : Nat)), (9, .int .i64 (q.1.length : Nat))]) (fun q => [ownB 3 1 (some ⟨g, 0, none⟩) d.length c ((q.1 ++ x :: (q.2 ++ T)).flatMap eN)]) (fun q => q.1.length) (S, []) ⟨List.append_nil _, fun y hy => by cases hy⟩ ?_ (hl := ⟨rfl, rfl, rfl, rfl, rfl, (by dsimp only; rw [hlen]; rfl), trivial⟩) (hH := by (try dsimp only); rw [List.nil_append, ← hdr]; repeat constructor)
  rintro ⟨P, Q⟩ ⟨hPQ, hQ⟩
  dsimp only at hPQ hQ ⊢
  refine s2 ?_
  have fin : (∀ y, P.getLast? = some y → lx key y x) → (P ++ x :: Q).Perm (d.take (i + 1)) ∧ (P ++ x :: Q).Pairwise (lx key) := fun h => by
   refine ⟨?_, ins_sorted (by rw [hPQ]; exact hS2) hQ h⟩
   rw [List.take_succ_eq_append_getElem hltx, hx]
   refine List.perm_middle.trans ?_
   rw [hPQ]
   exact (hS1.cons x).trans (List.perm_append_singleton _ _).symm
  have hPl : P.length + Q.length = i := by rw [← hlen, ← hPQ, List.length_append]
  rcases List.eq_nil_or_concat P with rfl | ⟨P', p, rfl⟩
  ·obtain ⟨fin1, fin2⟩ := fin (fun y hy => by cases hy)
   refine xD [0, 1, 2, 3, 4, 5, 6, 7, 8, 9, 10, 11, 12, 13, 14, 15, 16] [8, 13] ?_
   refine s3 ?_
   refine dDecF ?_ (by simp)
   refine s23 ?_
   refine kJ [(0, _), (1, _), (2, _), (3, _), (8, _)] ?_
   refine s5 ?_
   exact xR (i + 1, [] ++ x :: Q) ⟨by dsimp only; omega, by dsimp only; omega, fin1, fin2⟩ (by dsimp only; omega) (hl := ⟨rfl, rfl, rfl, rfl, (congrArg some (by go_num)), trivial⟩) (hH := by (try dsimp only); rw [show ([] ++ x :: Q) ++ d.drop (i + 1) = [] ++ x :: (Q ++ T) by rw [hT]; simp]; repeat constructor)
  ·rw [List.concat_eq_append] at *
   have hl2 : (P' ++ [p]).length = P'.length + 1 := by simp
   have e1 : P' ++ [p] ++ x :: (Q ++ T) = (P' ++ p :: x :: (Q ++ T)) := by simp
   have hML : (P' ++ p :: x :: (Q ++ T)).length = d.length := by simp; rw [hl2] at hPl; omega
   have hj0 : P'.length < (P' ++ p :: x :: (Q ++ T)).length := by simp
   have hj1 : P'.length + 1 < (P' ++ p :: x :: (Q ++ T)).length := by simp
   have g0 : (P' ++ p :: x :: (Q ++ T))[P'.length]'hj0 = p := by rw [List.getElem_append_right (by omega)]; simp
   have g1 : (P' ++ p :: x :: (Q ++ T))[P'.length + 1]'hj1 = x := by rw [List.getElem_append_right (by omega)]; simp
   have hsw : ((P' ++ p :: x :: (Q ++ T)).set (P'.length + 1) p).set P'.length x = P' ++ x :: (p :: Q ++ T) := swap_list
   have hpS := hgt p (by rw [← hPQ]; simp)
   rw [e1, hl2]
   refine xD [0, 1, 2, 3, 4, 5, 6, 7, 8, 9, 10, 11, 12, 13, 14, 15] [8, 13] ?_
   refine s3 ?_
   refine dDecT ?_ (by omega)
   refine s4 ?_
   refine dP rfl (pIdxI (P'.length + 1) rfl rfl rfl (by go_num)) ?_
   refine dL rfl (vOwn EN rfl rfl (by repeat constructor) hj1 (by omega) (by rw [g1]; rfl)) ?_
   refine s3 ?_
   refine dP rfl (pIdxI (P'.length) rfl rfl rfl (by go_num)) ?_
   refine dL rfl (vOwn EN rfl rfl (by repeat constructor) hj0 (by omega) (by rw [g0]; rfl)) ?_
   refine dW rfl (ow_callB (ec_val rfl rfl rfl Cf.h) rfl rfl (fun w hw => hcl x p hxm hpS.2 w (hw.pick (Pk.nil _)))) (fun _ _ => ?_)
   refine s1 ?_
   refine dDec (fun h33 => ?_) (fun h33 => ?_)
   ·have hkey : key x < key p := by
     unfold cmp3 at h33
     split at h33
     ·assumption
     ·split at h33 <;> omega
    refine dO [16] ?_
    refine s8 ?_
    refine kJ [(0, _), (1, _), (2, _), (3, _), (8, _), (9, _)] ?_
    refine xD [0, 1, 2, 3, 4, 5, 6, 7, 8, 9, 10, 11, 12, 13, 14, 15, 16, 17] [9, 13] ?_
    refine s8 ?_
    refine dP rfl (pIdxI (P'.length) rfl rfl rfl (by go_num)) ?_
    refine dL rfl (vOwn EN rfl rfl (by repeat constructor) hj0 (by omega) (by rw [g0]; rfl)) ?_
    refine s2 ?_
    refine dP rfl (pIdxI (P'.length + 1) rfl rfl rfl (by go_num)) ?_
    refine dL rfl (vOwn EN rfl rfl (by repeat constructor) hj1 (by omega) (by rw [g1]; rfl)) ?_
    refine dP rfl (pIdxI (P'.length + 1) rfl rfl rfl (by go_num)) ?_
    refine dW0 rfl (oStE EN [_] p (show P'.length + 1 < (P' ++ p :: x :: (Q ++ T)).length from hj1) (hi := Nat.le_refl _) (hr := rfl)) ?_
    refine dP rfl (pIdxI (P'.length) rfl rfl rfl (by go_num)) ?_
    refine dW0 rfl (oStE EN [_] x (show P'.length < ((P' ++ p :: x :: (Q ++ T)).set (P'.length + 1) p).length by rw [List.length_set]; exact hj0) (hi := Nat.le_refl _) (hr := rfl)) ?_
    refine s3 ?_
    refine kJ [(0, _), (1, _), (2, _), (3, _), (8, _), (9, _)] ?_
    refine s5 ?_
    refine xR (P', p :: Q) ⟨by dsimp only; rw [← hPQ, List.append_assoc]; rfl, fun y hy => (List.mem_cons.1 hy).elim (fun h => h ▸ hkey) (hQ y)⟩ (by dsimp only; omega) (hl := ⟨rfl, rfl, rfl, rfl, rfl, (congrArg (fun z => some (Value.int .i64 z)) (by dsimp only; omega)), trivial⟩) (hH := by dsimp only; rw [hsw]; repeat constructor)
   ·obtain ⟨fin1, fin2⟩ := fin (fun y hy => by
     have e : p = y := by simpa using hy
     subst e
     unfold lx
     unfold cmp3 at h33
     split at h33
     ·omega
     ·have := hpS.1; omega)
    refine dO [16] ?_
    refine s10 ?_
    refine kJ [(0, _), (1, _), (2, _), (3, _), (8, _)] ?_
    refine s5 ?_
    exact xR (i + 1, (P' ++ [p]) ++ x :: Q) ⟨by dsimp only; omega, by dsimp only; omega, fin1, fin2⟩ (by dsimp only; omega) (hl := ⟨rfl, rfl, rfl, rfl, (congrArg some (by go_num)), trivial⟩) (hH := by (try dsimp only); rw [show ((P' ++ [p]) ++ x :: Q) ++ d.drop (i + 1) = (P' ++ p :: x :: (Q ++ T)) by rw [hT]; simp]; repeat constructor)
 ·refine s7 ?_
  refine JR_end rfl ?_
  intro w' hw
  have hil : d.length ≤ i := by omega
  have e1 : d.take i = d := List.take_of_length_le hil
  have e2 : d.drop i = [] := List.drop_of_length_le hil
  rw [e1] at hS1
  rw [e2, List.append_nil, ← hS1.length_eq] at hw
  exact ⟨S, ⟨hS1, hS2⟩, rfl, hw.pick (by repeat constructor)⟩
end Go.Proofs.Ytmcpnoailbmkkaa
/- Layer 2: the nearest stones, sorted. -/
namespace Go.Proofs.Ytmcpnoailbmkkaa
open Go Go.RowKit Go.Proofs
attribute [local irreducible] J JQ JL JA JD

instance : Cf Try.prog 61 := ⟨fun _ _ => by kernel_rfl⟩
/-- What a call may have turned, a call of its callee's may have. -/
theorem Wd.nilM {B : Bs} {H : List It} {A : It} {w0 w : World} (hw : Wd B H w0) (hA : A ∈ H) (hr : A.ro = false) (hW : Wd ⟨w0, A.foot, none, []⟩ [] w) : Wd B [] w := by
 refine ⟨hW.os.trans hw.os, hW.tape.trans hw.tape, hW.output.trans hw.output, Nat.le_trans hw.size hW.size, fun b h1 h2 => (hW.block b (Nat.lt_of_lt_of_le h1 hw.size) (fun hf => ?_)).trans (hw.block b h1 h2), fun _ h => (by cases h), List.Pairwise.nil⟩
 rcases ((hw.ok A hA).2 b hf).1 with h | h | h
 ·rw [hr] at h; cases h
 ·exact h2 h
 ·omega
set_option maxRecDepth 100000 in
set_option maxHeartbeats 4000000 in
theorem stable_any (f : FuncId) (caps : Array Value) (key : Nat → Int) (d : List Nat) (g c : Nat) (w : World) [hf : Cf Try.prog f] (hA : (ownB 3 1 (some ⟨g, 0, none⟩) d.length c ((d).flatMap eN)).holds w) (hAf : ∀ b, (ownB 3 1 (some ⟨g, 0, none⟩) d.length c ((d).flatMap eN)).foot b → b < w.heap.size) (hinc : d.Pairwise (· < ·)) (hd20 : d.length ≤ 19) (hcl : ∀ i k : Nat, i ∈ d → k ∈ d → ∀ W, Wd ⟨w, (ownB 3 1 (some ⟨g, 0, none⟩) d.length c ((d).flatMap eN)).foot, none, []⟩ [] W → Calls Try.prog f (#[] ++ #[.int .i64 (i : Nat), .int .i64 (k : Nat)] ++ caps) W (Back (.int .i64 (cmp3 (key i) (key k))) W)) : Calls Try.prog 61 #[.slice (some ⟨g, 0, none⟩) d.length c, .int .i64 (d.length : Nat), .func (.func f) #[] caps] w (RetM (ownB 3 1 (some ⟨g, 0, none⟩) d.length c ((d).flatMap eN)) (fun d' : List Nat => d'.Perm d ∧ d'.Pairwise (lx key)) (fun _ => .tuple #[]) (fun d' => ownB 3 1 (some ⟨g, 0, none⟩) d'.length c ((d').flatMap eN)) w) := by
 refine J_start (B := ⟨w, (ownB 3 1 (some ⟨g, 0, none⟩) d.length c ((d).flatMap eN)).foot, none, []⟩) rfl rfl (vs := [.slice (some ⟨g, 0, none⟩) d.length c, .int .i64 (d.length : Nat), .func (.func f) #[] caps]) (k := 60) (l := [(0, .slice (some ⟨g, 0, none⟩) d.length c), (1, .int .i64 (d.length : Nat)), (2, .func (.func f) #[] caps)]) Try.func61 rfl rfl Try.ntmps61 rfl rfl (Wd.startM hA hAf) ?_
 refine s14 ?_
 refine xL (T := Unit) (fun _q => True) (fun _q => [(0, .slice (some ⟨g, 0, none⟩) d.length c), (1, .int .i64 (d.length : Nat)), (2, .func (.func f) #[] caps), (6, .int .i64 20), (7, .int .i64 0), (8, .int .i64 20)]) (fun _q => [ownB 3 1 (some ⟨g, 0, none⟩) d.length c ((d).flatMap eN)]) (fun _q => 0) () trivial ?_
 rintro _ -
 refine s6 ?_
 refine aDecF ?_ (by omega)
 refine s9 ?_
 refine kJ [(0, _), (1, _), (2, _), (6, _), (7, _)] ?_
 refine s5 ?_
 refine aW (oM (fun w hw => insertion_any f caps key d g c w (hw.ok (ownB 3 1 (some ⟨g, 0, none⟩) d.length c ((d).flatMap eN)) (by repeat constructor)).1 (fun b hb => ((hw.ok (ownB 3 1 (some ⟨g, 0, none⟩) d.length c ((d).flatMap eN)) (by repeat constructor)).2 b hb).2) hinc (by omega) (fun i k hi hk W hW => hcl i k hi hk W (hw.nilM (A := ownB 3 1 (some ⟨g, 0, none⟩) d.length c ((d).flatMap eN)) (by repeat constructor) rfl hW)))) (fun dd hdd => ?_)
 refine s3 ?_
 refine xL (T := Unit) (fun _q => True) (fun _q => [(0, .slice (some ⟨g, 0, none⟩) d.length c), (1, .int .i64 (d.length : Nat)), (2, .func (.func f) #[] caps), (6, .int .i64 20)]) (fun _q => [ownB 3 1 (some ⟨g, 0, none⟩) dd.length c (dd.flatMap eN)]) (fun _q => 0) () trivial ?_
 rintro _ -
 refine s6 ?_
 refine aDecF ?_ (by omega)
 refine s7 ?_
 refine JR_end rfl ?_
 intro w' hw
 exact ⟨dd, hdd, rfl, hw.pick (by repeat constructor)⟩
set_option maxRecDepth 100000 in
set_option maxHeartbeats 4000000 in
theorem sortStable_any (f : FuncId) (caps : Array Value) (key : Nat → Int) (d : List Nat) (g c : Nat) (w : World) [hf : Cf Try.prog f] (hA : (ownB 3 1 (some ⟨g, 0, none⟩) d.length c ((d).flatMap eN)).holds w) (hAf : ∀ b, (ownB 3 1 (some ⟨g, 0, none⟩) d.length c ((d).flatMap eN)).foot b → b < w.heap.size) (hinc : d.Pairwise (· < ·)) (hd20 : d.length ≤ 19) (hcl : ∀ i k : Nat, i ∈ d → k ∈ d → ∀ W, Wd ⟨w, (ownB 3 1 (some ⟨g, 0, none⟩) d.length c ((d).flatMap eN)).foot, none, []⟩ [] W → Calls Try.prog f (#[] ++ #[.int .i64 (i : Nat), .int .i64 (k : Nat)] ++ caps) W (Back (.int .i64 (cmp3 (key i) (key k))) W)) : Calls Try.prog 41 #[.slice (some ⟨g, 0, none⟩) d.length c, .func (.func f) #[] caps] w (RetM (ownB 3 1 (some ⟨g, 0, none⟩) d.length c ((d).flatMap eN)) (fun d' : List Nat => d'.Perm d ∧ d'.Pairwise (lx key)) (fun _ => .tuple #[]) (fun d' => ownB 3 1 (some ⟨g, 0, none⟩) d'.length c ((d').flatMap eN)) w) := by
 refine J_start (B := ⟨w, (ownB 3 1 (some ⟨g, 0, none⟩) d.length c ((d).flatMap eN)).foot, none, []⟩) rfl rfl (vs := [.slice (some ⟨g, 0, none⟩) d.length c, .func (.func f) #[] caps]) (k := 7) (l := [(0, .slice (some ⟨g, 0, none⟩) d.length c), (1, .func (.func f) #[] caps)]) Try.func41 rfl rfl Try.ntmps41 rfl rfl (Wd.startM hA hAf) ?_
 refine s5 ?_
 refine aW (oM (fun w hw => stable_any f caps key d g c w (hw.ok (ownB 3 1 (some ⟨g, 0, none⟩) d.length c ((d).flatMap eN)) (by repeat constructor)).1 (fun b hb => ((hw.ok (ownB 3 1 (some ⟨g, 0, none⟩) d.length c ((d).flatMap eN)) (by repeat constructor)).2 b hb).2) hinc hd20 (fun i k hi hk W hW => hcl i k hi hk W (hw.nilM (A := ownB 3 1 (some ⟨g, 0, none⟩) d.length c ((d).flatMap eN)) (by repeat constructor) rfl hW)))) (fun dd hdd => ?_)
 refine s1 ?_
 refine JR_end rfl ?_
 intro w' hw
 exact ⟨dd, hdd, rfl, hw.pick (by repeat constructor)⟩
set_option maxRecDepth 100000 in
set_option maxHeartbeats 4000000 in
theorem insertion_nil (fv : Value) (w : World) : Calls Try.prog 78 #[.slice none 0 0, .int .i64 0, .int .i64 0, fv] w (Back (.tuple #[]) w) := by
 refine J_enter (fun _ => False) (vs := [.slice none 0 0, .int .i64 0, .int .i64 0, fv]) (k := 49) (l := [(0, .slice none 0 0), (1, .int .i64 0), (2, .int .i64 0), (3, fv)]) Try.func78 rfl rfl Try.ntmps78 rfl rfl (Wd.start _) ?_
 refine s8 ?_
 refine xL (T := Unit) (fun _q => True) (fun _q => [(0, .slice none 0 0), (1, .int .i64 0), (2, .int .i64 0), (3, fv), (8, .int .i64 1)]) (fun _q => []) (fun _q => 0) () trivial ?_
 rintro _ -
 refine s6 ?_
 refine aDecF ?_ (by decide)
 refine s7 ?_
 refine JR_end rfl ?_
 intro w' hw
 exact ⟨rfl, hw.bel⟩
set_option maxRecDepth 100000 in
set_option maxHeartbeats 4000000 in
theorem stable_nil (fv : Value) (w : World) : Calls Try.prog 61 #[.slice none 0 0, .int .i64 0, fv] w (Back (.tuple #[]) w) := by
 refine J_enter (fun _ => False) (vs := [.slice none 0 0, .int .i64 0, fv]) (k := 60) (l := [(0, .slice none 0 0), (1, .int .i64 0), (2, fv)]) Try.func61 rfl rfl Try.ntmps61 rfl rfl (Wd.start _) ?_
 refine s14 ?_
 refine xL (T := Unit) (fun _q => True) (fun _q => [(0, .slice none 0 0), (1, .int .i64 0), (2, fv), (6, .int .i64 20), (7, .int .i64 0), (8, .int .i64 20)]) (fun _q => []) (fun _q => 0) () trivial ?_
 rintro _ -
 refine s6 ?_
 refine aDecF ?_ (by decide)
 refine s9 ?_
 refine kJ [(0, _), (1, _), (2, _), (6, _), (7, _)] ?_
 refine s5 ?_
 refine aCB (fun w hw => insertion_nil fv w) ?_
 refine s3 ?_
 refine xL (T := Unit) (fun _q => True) (fun _q => [(0, .slice none 0 0), (1, .int .i64 0), (2, fv), (6, .int .i64 20)]) (fun _q => []) (fun _q => 0) () trivial ?_
 rintro _ -
 refine s6 ?_
 refine aDecF ?_ (by decide)
 refine s7 ?_
 refine JR_end rfl ?_
 intro w' hw
 exact ⟨rfl, hw.bel⟩
set_option maxRecDepth 100000 in
set_option maxHeartbeats 4000000 in
theorem sortStable_nil (fv : Value) (w : World) : Calls Try.prog 41 #[.slice none 0 0, fv] w (Back (.tuple #[]) w) := by
 refine J_enter (fun _ => False) (vs := [.slice none 0 0, fv]) (k := 7) (l := [(0, .slice none 0 0), (1, fv)]) Try.func41 rfl rfl Try.ntmps41 rfl rfl (Wd.start _) ?_
 refine s5 ?_
 refine aCB (fun w hw => stable_nil fv w) ?_
 refine s1 ?_
 refine JR_end rfl ?_
 intro w' hw
 exact ⟨rfl, hw.bel⟩
end Go.Proofs.Ytmcpnoailbmkkaa
/- Layer 2: nearest. -/
namespace Go.Proofs.Ytmcpnoailbmkkaa
open Go Go.RowKit Go.Proofs
attribute [local irreducible] J JQ JL JA JD

/-- The nearest stones: a list, as a row. -/
structure NrT where
 L : List Nat
 A : Option Addr
 c : Nat
/-- Those of a list's stones that are in the house, the nearest first. -/
def NrP (l : List St) (L : List Nat) : Prop := L.Perm (hsA l) ∧ L.Pairwise (lx (sqAt l))
theorem NrP.uniq {l : List St} {L L' : List Nat} (h : NrP l L) (h' : NrP l L') : L = L' := by
 refine List.Perm.eq_of_pairwise (le := lx (sqAt l)) (fun a b _ _ h1 h2 => ?_) h.2 h'.2 (h.1.trans h'.1.symm)
 unfold lx at h1 h2; omega
theorem hsX_s {l : List St} {n k : Nat} (h : (hsA l)[n]? = some k) : hsX l (n + 1) = hsX l n ++ [k] := by
 obtain ⟨h1, h2⟩ := List.getElem?_eq_some_iff.1 h
 unfold hsX
 rw [List.take_succ_eq_append_getElem h1, h2]
theorem hsX_all (l : List St) : hsX l (hsA l).length = hsA l := List.take_length
theorem hsA_up (l : List St) : (hsA l).Pairwise (· < ·) := by
 unfold hsA hsN
 exact List.pairwise_lt_range.sublist List.filter_sublist
theorem hsA_mem {l : List St} {i : Nat} (h : i ∈ hsA l) : i < l.length := (hs_mem h).1
theorem hsX_len (l : List St) (n : Nat) : (hsX l n).length ≤ l.length := by
 unfold hsX
 exact Nat.le_trans (List.length_take_le' n (hsA l)) (hsN_len l l.length)
theorem own_cs {B : Bs} {H : List It} {ty k m c : Nat} {A : Option Addr} {xs : List Value} (hw : ∃ w, Wd B H w) (hm : ownB ty k A m c xs ∈ H) : (A = none ∧ m = 0 ∧ c = 0) ∨ ∃ g, A = some ⟨g, 0, none⟩ := by
 obtain ⟨w, hw⟩ := hw
 have h : w.ownsRow 0 ty k (.slice A m c) m xs := (hw.ok _ hm).1
 rcases h.2 with ⟨h1, h2⟩ | ⟨g, cap, cur, h1, -⟩
 ·injection h1 with e1 e2 e3
  exact .inl ⟨e1, e2, e3⟩
 ·injection h1 with e1
  exact .inr ⟨g, e1⟩
theorem Wd.keepM {B : Bs} {H : List It} {A C : It} {w0 w : World} (hw : Wd B H w0) (hW : Wd ⟨w0, A.foot, none, []⟩ [] w) (hk : Pk [C, A] H) (hr : C.ro = false) : C.holds w := by
 have h2 := hw.pick hk
 have hs := sepR.out ((List.pairwise_cons.1 h2.sep).1 A (by simp)) hr
 have o := h2.ok C (by simp)
 exact C.st w0 w (fun b hb => hW.block b (o.2 b hb).2 (fun h => hs b hb h)) o.1
theorem Wd.belM2 {H : List It} {A : It} {w0 w1 w : World} {r : Option Nat} {d : List Deferred} (hw : Wd ⟨w0, fun _ => False, r, d⟩ H w1) (hA : A ∈ H) (hAr : A.ro = false) (hW : Wd ⟨w1, A.foot, none, []⟩ [] w) : Below w0.heap.size w0 w := by
 refine ⟨hW.os.trans hw.os, hW.tape.trans hw.tape, hW.output.trans hw.output, Nat.le_trans hw.size hW.size, fun b hlt => (hW.block b (Nat.lt_of_lt_of_le hlt hw.size) (fun hf => ?_)).trans (hw.block b hlt (fun h => h))⟩
 have hlt' : b < w0.heap.size := hlt
 rcases ((hw.ok A hA).2 b hf).1 with h | h | h
 ·rw [hAr] at h; cases h
 ·exact h
 ·have : w0.heap.size ≤ b := h
  omega
set_option maxRecDepth 100000 in
set_option maxHeartbeats 4000000 in
theorem nearest_any (l : List St) (v : Value) (w : World) (hrow : Arr 4 eT w v l) (hok : ∀ s ∈ l, OkS s.x s.y) (hpl : ∀ s ∈ l, Play s.x s.y) (hl9 : l.length ≤ 19) : Calls Try.prog 22 #[v] w (Ret w (fun t : NrT => NrP l t.L) (fun t => .slice t.A t.L.length t.c) (fun t => [ownB 3 1 t.A t.L.length t.c (t.L.flatMap eN)])) := by
 have hrow0 := hrow
 obtain ⟨A, cap, rfl, -, ⟨hl, -⟩, hA⟩ := hrow
 refine J_startM (B := bs w) rfl rfl (vs := [.slice A l.length cap]) (k := 16) (l := [(0, .slice A l.length cap)]) Try.func22 rfl rfl Try.ntmps22 rfl rfl ((Wd.start (bs w))) ?_
 refine s2 ?_
 refine aW (oX [_]) (fun b1 hb1 => ?_)
 refine s5 ?_
 refine aW oA (fun b3 hb3 => ?_)
 refine s4 ?_
 refine J_own0 3 1 ?_
 refine J_defs ?_
 refine s2 ?_
 refine aW (oR (fun w hw => housed_any A l.length cap w)) (fun bh _ => ?_)
 refine s3 ?_
 refine J_range2 (T := HsT) (Y := Nat × St) (Ds := []) (p := 7) (q := 8) (fun t => t.n ≤ (hsA l).length) (fun t X => [cellB bh [.slice A l.length cap] 32, cellB b1 [.slice A l.length cap] 32, cellB b3 [.slice t.A (hsX l t.n).length t.c] 25, ownB 3 1 t.A (hsX l t.n).length t.c ((hsX l t.n).flatMap eN), X]) (fun t y => (hsA l)[t.n]? = some y.1 ∧ l[y.1]? = some y.2) (fun y => .int .i64 (y.1 : Nat)) (fun y => Stv y.2) (fun t y X => [cellB bh [.slice A l.length cap] 32, cellB b1 [.slice A l.length cap] 32, cellB b3 [.slice t.A (hsX l t.n).length t.c] 25, ownB 3 1 t.A (hsX l t.n).length t.c ((hsX l t.n).flatMap eN), X]) (fun t t' => t'.n = t.n + 1) (fun t => t.n = (hsA l).length) (fun t => t.n = 0) (fun y => [(1, .pointer (some ⟨b1, 0, none⟩)), (3, .pointer (some ⟨b3, 0, none⟩)), (4, .int .i64 (y.1 : Nat))]) (housed1_any l A cap bh b3 w (cellB b1 [.slice A l.length cap] 32) hrow0 hok) (⟨0, none, 0⟩) ((Nat.zero_le _)) (rfl) ?_ ?_ ?_
 ·rintro lp t ⟨yk, ys⟩ X ht ⟨hy1, hy2⟩
  dsimp only at hy1 hy2 ⊢
  have hxl := hsX_len l t.n
  refine kJ [(1, _), (3, _), (7, _)] ?_
  refine s3 ?_
  exact xE () trivial
 ·rintro lp t ⟨yk, ys⟩ X ht ⟨hy1, hy2⟩
  dsimp only at hy1 hy2 ⊢
  have hxl := hsX_len l t.n
  refine s4 ?_
  refine aW (ow_sliceC (vs := [_]) (ty := 3) rfl rfl (by rfl) rfl rfl (fun _ => by kernel_rfl)) (fun b11 hb11 => ?_)
  refine aS (oApp (sl := 25) EN (yk)) (fun A12 c12 => ?_)
  refine s3 ?_
  have hs := hsX_s hy1
  exact xE ⟨t.n + 1, A12, c12⟩ ⟨rfl, by have := (List.getElem?_eq_some_iff.1 hy1).1; dsimp only; omega⟩ (hH := by (try dsimp only); rw [hs]; repeat constructor)
 ·rintro D t ht hfin
  refine s3 ?_
  have ht2 : hsX l t.n = hsA l := by rw [hfin]; exact hsX_all l
  rw [ht2]
  refine J_fact (fun hw => ?_)
  rcases own_cs hw (ty := 3) (k := 1) (A := t.A) (m := (hsA l).length) (c := t.c) (xs := (hsA l).flatMap eN) (by repeat constructor) with ⟨hz1, hz2, hz3⟩ | ⟨g, hz1⟩
  ·clear hw
   have hz4 : hsA l = [] := List.length_eq_zero_iff.1 hz2
   rw [hz1, hz3, hz4]
   refine kJ [(1, _), (3, _)] ?_
   refine s3 ?_
   refine aCB (fun w hw => sortStable_nil _ w) ?_
   refine s3 ?_
   refine kJ [(3, _)] ?_
   refine s6 ?_
   refine JR_marks (fun X => [ownB 3 1 none 0 0 [], X]) rfl (fun _ => rr_tmp rfl) ?_
   intro w' hw
   exact ⟨⟨[], none, 0⟩, ⟨by rw [hz4], List.Pairwise.nil⟩, rfl, (hw.un (r' := none) (d' := [])).pick (by repeat constructor)⟩
  ·clear hw
   rw [hz1]
   refine kJ [(1, _), (3, _)] ?_
   refine s3 ?_
   refine aW (oM (fun w hw => sortStable_any 42 #[.pointer (some ⟨b1, 0, none⟩)] (sqAt l) (hsA l) g t.c w (hw.ok (ownB 3 1 (some ⟨g, 0, none⟩) (hsA l).length t.c ((hsA l).flatMap eN)) (by repeat constructor)).1 (fun b hb => ((hw.ok (ownB 3 1 (some ⟨g, 0, none⟩) (hsA l).length t.c ((hsA l).flatMap eN)) (by repeat constructor)).2 b hb).2) (hsA_up l) (by have := hsN_len l l.length; unfold hsA; omega) (fun i k hi hk W hW => near1_any l A cap b1 i k W (hw.keepM (A := ownB 3 1 (some ⟨g, 0, none⟩) (hsA l).length t.c ((hsA l).flatMap eN)) (C := cellB b1 [.slice A l.length cap] 32) hW (by repeat constructor) rfl) (hrow0.up ET (hw.belM2 (A := ownB 3 1 (some ⟨g, 0, none⟩) (hsA l).length t.c ((hsA l).flatMap eN)) (by repeat constructor) rfl hW)) (hsA_mem hi) (hsA_mem hk) hpl))) (fun dd hdd => ?_)
   refine s3 ?_
   refine kJ [(3, _)] ?_
   refine s6 ?_
   refine JR_marks (fun X => [ownB 3 1 (some ⟨g, 0, none⟩) dd.length t.c (dd.flatMap eN), X]) rfl (fun _ => rr_tmp rfl) ?_
   intro w' hw
   have hdl := hdd.1.length_eq
   exact ⟨⟨dd, some ⟨g, 0, none⟩, t.c⟩, hdd, by dsimp only; rw [hdl], (hw.un (r' := none) (d' := [])).pick (by repeat constructor)⟩
end Go.Proofs.Ytmcpnoailbmkkaa
/- Layer 2, in plain Lean: the count of the program and that of the document are one. (Carried over from wip/sheet's V, Rc, Cn.) -/
namespace Go.Proofs.Ytmcpnoailbmkkaa
open Go Go.RowKit Go.Proofs
def teamAt (l : List St) (i : Nat) : Int := (l.getD i ⟨0, 0, 0, 0⟩).t
/-! V -/
/-- How many of the first lim are nearer than far, from the first one on. -/
def ptsN (l : List St) (d : List Nat) (lim : Nat) (far : Int) : Nat := ((d.take lim).takeWhile fun i => decide (sqAt l i < far)).length

/-- Who counts, by the order d. -/
def cntT (l : List St) (d : List Nat) : Int × Int :=
  match d with
  | [] => (-1, 0)
  | a :: _ =>
    if fidx (fun i => teamAt l i != teamAt l a) d < 0 then (teamAt l a, (d.length : Nat)) else
      if ptsN l d (fidx (fun i => teamAt l i != teamAt l a) d).toNat (sqAt l (d.getD (fidx (fun i => teamAt l i != teamAt l a) d).toNat 0)) = 0 then (-1, 0)
      else (teamAt l a, (ptsN l d (fidx (fun i => teamAt l i != teamAt l a) d).toNat (sqAt l (d.getD (fidx (fun i => teamAt l i != teamAt l a) d).toNat 0)) : Nat))

theorem ptsN_at {l : List St} {d : List Nat} {lim k : Nat} {far : Int} (hl : lim ≤ d.length) (hk : k ≤ lim) (h1 : ∀ j (hj : j < d.length), j < k → sqAt l (d[j]'hj) < far)
    (h2 : k = lim ∨ ∃ h : k < d.length, ¬ sqAt l (d[k]'h) < far) : ptsN l d lim far = k := by
  unfold ptsN
  obtain ⟨p, hp⟩ : ∃ p : Nat → Bool, (fun i => decide (sqAt l i < far)) = p := ⟨_, rfl⟩
  have hp1 : ∀ j (hj : j < d.length), j < k → p (d[j]'hj) = true := fun j hj h => by rw [← hp]; exact decide_eq_true (h1 j hj h)
  have hp2 : k = lim ∨ ∃ h : k < d.length, p (d[k]'h) = false := h2.imp_right fun ⟨h, h3⟩ => ⟨h, by rw [← hp]; exact decide_eq_false h3⟩
  rw [hp]
  clear hp h1 h2
  induction d generalizing lim k with
  | nil => simp at hl; subst hl; simp; omega
  | cons a d ih =>
    cases lim with
    | zero => simp; omega
    | succ lim =>
      rw [List.take_succ_cons]
      cases k with
      | zero =>
        rcases hp2 with h | ⟨h, h3⟩
        · omega
        · simp only [List.getElem_cons_zero] at h3
          rw [List.takeWhile_cons_of_neg (by simp [h3])]; rfl
      | succ k =>
        have h0 := hp1 0 (by simp) (by omega)
        simp only [List.getElem_cons_zero] at h0
        rw [List.takeWhile_cons_of_pos h0, List.length_cons]
        congr 1
        refine ih (lim := lim) (k := k) (by simpa using hl) (by omega) (fun j hj h => ?_) ?_
        · have := hp1 (j + 1) (by simp; omega) (by omega)
          simpa using this
        · rcases hp2 with h | ⟨h, h3⟩
          · exact .inl (by omega)
          · exact .inr ⟨by simpa using h, by simpa using h3⟩

/-! Rc -/
/-- The square of the distance of a team's nearest stone in the house, among the first k. -/
def bT (l : List St) (t : Int) : Nat → Option Int
  | 0 => none
  | k + 1 => if (teamAt l k = t ∧ k ∈ hsA l) ∧ (bT l t k = none ∨ sqAt l k < (bT l t k).getD 0) then some (sqAt l k) else bT l t k

/-- How many of the first k stones are a team's, in the house, and nearer than a limit. -/
def cK (l : List St) (t : Int) (lim : Option Int) : Nat → Nat
  | 0 => 0
  | k + 1 => cK l t lim k + if (teamAt l k = t ∧ k ∈ hsA l) ∧ (lim = none ∨ sqAt l k < lim.getD 0) then 1 else 0

theorem cK_le (l : List St) (t : Int) (lim : Option Int) : ∀ k, cK l t lim k ≤ k
  | 0 => Nat.le_refl _
  | k + 1 => by have := cK_le l t lim k; unfold cK; split <;> omega

/-- Who counts, as the document says it. -/
def refP (l : List St) (x0 x1 : Option Int) : Int × Int :=
  match x0, x1 with
  | none, none => (-1, 0)
  | some _, none => (0, (cK l 0 none l.length : Nat))
  | none, some _ => (1, (cK l 1 none l.length : Nat))
  | some a, some b => if a = b then (-1, 0) else if b < a then (1, (cK l 1 (some a) l.length : Nat)) else (0, (cK l 0 (some b) l.length : Nat))

def refT (l : List St) : Int × Int := refP l (bT l 0 l.length) (bT l 1 l.length)

/-! Cn -/
theorem bT_spec (l : List St) (t : Int) : ∀ k, (bT l t k = none ∧ ∀ i, i < k → i ∈ hsA l → teamAt l i ≠ t) ∨
    (∃ m, bT l t k = some m ∧ (∃ i, i < k ∧ i ∈ hsA l ∧ teamAt l i = t ∧ sqAt l i = m) ∧ ∀ i, i < k → i ∈ hsA l → teamAt l i = t → m ≤ sqAt l i)
  | 0 => .inl ⟨rfl, fun _ h => by omega⟩
  | k + 1 => by
    have ih := bT_spec l t k
    unfold bT
    by_cases hc : (teamAt l k = t ∧ k ∈ hsA l) ∧ (bT l t k = none ∨ sqAt l k < (bT l t k).getD 0)
    · rw [if_pos hc]
      refine .inr ⟨_, rfl, ⟨k, by omega, hc.1.2, hc.1.1, rfl⟩, fun i hi h1 h2 => ?_⟩
      by_cases hik : i = k
      · subst hik; exact Int.le_refl _
      · rcases ih with ⟨h3, h4⟩ | ⟨m, h3, -, h4⟩
        · exact absurd h2 (h4 i (by omega) h1)
        · have := h4 i (by omega) h1 h2
          rw [h3] at hc
          rcases hc.2 with h5 | h5
          · cases h5
          · simp at h5; omega
    · rw [if_neg hc]
      rcases ih with ⟨h3, h4⟩ | ⟨m, h3, ⟨i0, h5, h6, h7, h8⟩, h4⟩
      · refine .inl ⟨h3, fun i hi h1 h2 => ?_⟩
        by_cases hik : i = k
        · subst hik; exact hc ⟨⟨h2, h1⟩, .inl h3⟩
        · exact h4 i (by omega) h1 h2
      · refine .inr ⟨m, h3, ⟨i0, by omega, h6, h7, h8⟩, fun i hi h1 h2 => ?_⟩
        by_cases hik : i = k
        · subst hik
          rcases Int.lt_or_le (sqAt l i) m with h | h
          · exact absurd ⟨⟨h2, h1⟩, .inr (by rw [h3]; exact h)⟩ hc
          · exact h
        · exact h4 i (by omega) h1 h2

theorem cK_filter (l : List St) (t : Int) (lim : Option Int) : ∀ k, cK l t lim k = ((List.range k).filter fun i => decide (i ∈ hsA l) && decide (teamAt l i = t ∧ (lim = none ∨ sqAt l i < lim.getD 0))).length
  | 0 => rfl
  | k + 1 => by
    have ih := cK_filter l t lim k
    unfold cK
    rw [ih, List.range_succ, List.filter_append, List.length_append]
    congr 1
    by_cases hc : (teamAt l k = t ∧ k ∈ hsA l) ∧ (lim = none ∨ sqAt l k < lim.getD 0)
    · rw [if_pos hc]
      simp [hc.1.1, hc.1.2, hc.2]
    · rw [if_neg hc]
      symm
      rw [List.length_eq_zero_iff, List.filter_eq_nil_iff]
      intro i hi
      rw [List.mem_singleton] at hi
      subst hi
      simp only [Bool.and_eq_true, decide_eq_true_eq]
      exact fun h => hc ⟨⟨h.2.1, h.1⟩, h.2.2⟩


theorem near_nodup {l : List St} {d : List Nat} (hd : NrP l d) : d.Nodup :=
  hd.2.imp fun {a b} h e => by subst e; unfold lx at h; omega

theorem cK_near {l : List St} {d : List Nat} (hd : NrP l d) (t : Int) (lim : Option Int) : cK l t lim l.length = (d.filter fun i => decide (teamAt l i = t ∧ (lim = none ∨ sqAt l i < lim.getD 0))).length := by
  rw [cK_filter]
  apply List.Perm.length_eq
  refine (List.perm_ext_iff_of_nodup ((List.nodup_range).filter _) ((near_nodup hd).filter _)).2 fun i => ?_
  simp only [List.mem_filter, List.mem_range, Bool.and_eq_true, decide_eq_true_eq]
  constructor
  · rintro ⟨-, h1, h2⟩
    exact ⟨hd.1.mem_iff.2 h1, h2⟩
  · rintro ⟨h1, h2⟩
    have := hd.1.mem_iff.1 h1
    exact ⟨hsA_mem this, this, h2⟩

theorem fidx_two {α : Type} (p : α → Bool) (l : List α) : (fidx p l = -1 ∧ ∀ j (hj : j < l.length), p (l[j]'hj) = false) ∨
    ∃ k, ∃ hk : k < l.length, fidx p l = k ∧ p (l[k]'hk) = true ∧ ∀ j (hj : j < k), p (l[j]'(by omega)) = false := by
  by_cases h : l.findIdx p < l.length
  · refine .inr ⟨l.findIdx p, h, by unfold fidx; rw [if_pos h], List.findIdx_getElem, fun j hj => ?_⟩
    have := List.not_of_lt_findIdx hj
    simpa using this
  · refine .inl ⟨by unfold fidx; rw [if_neg h], fun j hj => ?_⟩
    have := List.not_of_lt_findIdx (p := p) (xs := l) (i := j) (by omega)
    simpa using this

theorem near_mono {l : List St} {d : List Nat} (hd : NrP l d) {i j : Nat} (hj : j < d.length) (hij : i ≤ j) : sqAt l (d[i]'(by omega)) ≤ sqAt l (d[j]'hj) := by
  by_cases e : i = j
  · subst e; exact Int.le_refl _
  · have := List.pairwise_iff_getElem.1 hd.2 i j (by omega) hj (by omega)
    unfold lx at this; omega

/-- A team's nearest stone, by the order d. -/
theorem bT_none {l : List St} {d : List Nat} (hd : NrP l d) {t : Int} (h : ∀ i ∈ d, teamAt l i ≠ t) : bT l t l.length = none := by
  rcases bT_spec l t l.length with ⟨h1, -⟩ | ⟨m, -, ⟨i, -, h2, h3, -⟩, -⟩
  · exact h1
  · exact absurd h3 (h i (hd.1.mem_iff.2 h2))

theorem bT_some {l : List St} {d : List Nat} (hd : NrP l d) {t : Int} {k : Nat} (hk : k < d.length) (h1 : teamAt l (d[k]'hk) = t) (h2 : ∀ j (hj : j < k), teamAt l (d[j]'(by omega)) ≠ t) :
    bT l t l.length = some (sqAt l (d[k]'hk)) := by
  have hm : d[k]'hk ∈ hsA l := hd.1.mem_iff.1 (List.getElem_mem _)
  rcases bT_spec l t l.length with ⟨-, h3⟩ | ⟨m, h3, ⟨i, hi, h4, h5, h6⟩, h7⟩
  · exact absurd h1 (h3 _ (hsA_mem hm) hm)
  · rw [h3]
    have ha := h7 _ (hsA_mem hm) hm h1
    obtain ⟨j, hj, he⟩ := List.getElem_of_mem (hd.1.mem_iff.2 h4)
    have hkj : k ≤ j := by
      rcases Nat.lt_or_ge j k with h | h
      · exact absurd (by rw [he]; exact h5) (h2 j h)
      · exact h
    have hb := near_mono hd hj hkj
    rw [he, h6] at hb
    rw [show m = sqAt l (d[k]'hk) by omega]

theorem lead_of (P : Nat → Prop) [DecidablePred P] : ∀ d : List Nat, ∃ p, p ≤ d.length ∧ (∀ j (hj : j < d.length), j < p → P (d[j]'hj)) ∧ (p = d.length ∨ ∃ h : p < d.length, ¬ P (d[p]'h))
  | [] => ⟨0, by simp, fun j hj => by simp at hj, .inl rfl⟩
  | a :: d => by
    by_cases ha : P a
    · obtain ⟨p, h1, h2, h3⟩ := lead_of P d
      refine ⟨p + 1, by simpa using h1, fun j hj hjp => ?_, ?_⟩
      · cases j with
        | zero => exact ha
        | succ j => exact h2 j (by simpa using hj) (by omega)
      · rcases h3 with h3 | ⟨h, h3⟩
        · exact .inl (by simp [h3])
        · exact .inr ⟨by simpa using h, by simpa using h3⟩
    · exact ⟨0, by simp, fun j hj h => by omega, .inr ⟨by simp, by simpa using ha⟩⟩

theorem cnt_ref {l : List St} {d : List Nat} (hd : NrP l d) (ht : ∀ i ∈ d, teamAt l i = 0 ∨ teamAt l i = 1) : cntT l d = refT l := by
  cases hdd : d with
  | nil =>
    subst hdd
    have e0 := bT_none hd (t := 0) (by simp)
    have e1 := bT_none hd (t := 1) (by simp)
    unfold refT; rw [e0, e1]; rfl
  | cons a ds =>
    have hd0 : 0 < d.length := by rw [hdd]; simp
    have e0 : d[0]'hd0 = a := by subst hdd; rfl
    have hc : cntT l d = if fidx (fun i => teamAt l i != teamAt l a) d < 0 then (teamAt l a, ((d.length : Nat) : Int)) else
      if ptsN l d (fidx (fun i => teamAt l i != teamAt l a) d).toNat (sqAt l (d.getD (fidx (fun i => teamAt l i != teamAt l a) d).toNat 0)) = 0 then (-1, 0)
      else (teamAt l a, ((ptsN l d (fidx (fun i => teamAt l i != teamAt l a) d).toNat (sqAt l (d.getD (fidx (fun i => teamAt l i != teamAt l a) d).toNat 0)) : Nat) : Int)) := by subst hdd; rfl
    rw [← hdd]
    rw [hc]
    obtain ⟨T, hT⟩ : ∃ T, teamAt l a = T := ⟨_, rfl⟩
    rw [hT]
    have hT01 : T = 0 ∨ T = 1 := by rw [← hT]; exact ht a (by rw [hdd]; simp)
    have hbT : bT l T l.length = some (sqAt l a) := by
      have := bT_some hd hd0 (t := T) (by rw [e0, hT]) (fun j hj => by omega)
      rwa [e0] at this
    rcases fidx_two (fun i => teamAt l i != T) d with ⟨h1, h2⟩ | ⟨m, hm, h1, h2, h3⟩
    · rw [h1, if_pos (by omega)]
      have hall : ∀ i ∈ d, teamAt l i = T := fun i hi => by
        obtain ⟨j, hj, rfl⟩ := List.getElem_of_mem hi
        have := h2 j hj
        simpa using this
      have hcK : cK l T none l.length = d.length := by
        rw [cK_near hd, List.filter_eq_self.2]
        intro i hi
        simp [hall i hi]
      unfold refT
      rcases hT01 with rfl | rfl
      · rw [hbT, bT_none hd (t := 1) (fun i hi => by rw [hall i hi]; omega)]
        show _ = ((0 : Int), ((cK l 0 none l.length : Nat) : Int))
        rw [hcK]
      · rw [hbT, bT_none hd (t := 0) (fun i hi => by rw [hall i hi]; omega)]
        show _ = ((1 : Int), ((cK l 1 none l.length : Nat) : Int))
        rw [hcK]
    · rw [h1, if_neg (by omega), Int.toNat_natCast]
      have hgd : d.getD m 0 = d[m]'hm := by rw [List.getD_eq_getElem?_getD, List.getElem?_eq_getElem hm]; rfl
      rw [hgd]
      obtain ⟨far, hfar⟩ : ∃ far, sqAt l (d[m]'hm) = far := ⟨_, rfl⟩
      rw [hfar]
      have hbef : ∀ j (hj : j < m), teamAt l (d[j]'(by omega)) = T := fun j hj => by have := h3 j hj; simpa using this
      have hne : teamAt l (d[m]'hm) ≠ T := by simpa using h2
      have hU : teamAt l (d[m]'hm) = 1 - T := by
        have := ht _ (List.getElem_mem hm)
        rcases hT01 with rfl | rfl <;> rcases this with h | h <;> omega
      have hbU : bT l (1 - T) l.length = some far := by
        have := bT_some hd hm (t := 1 - T) hU (fun j hj => by rw [hbef j hj]; rcases hT01 with rfl | rfl <;> omega)
        rwa [hfar] at this
      -- the leading ones
      obtain ⟨p, hpl, hlt, hend⟩ := lead_of (fun i => sqAt l i < far) d
      have hpm : p ≤ m := by
        rcases Nat.lt_or_ge m p with h | h
        · have := hlt m hm h; omega
        · exact h
      have hge : ∀ j (hj : j < d.length), p ≤ j → far ≤ sqAt l (d[j]'hj) := fun j hj hjp => by
        have hpd : p < d.length := by omega
        have h6 : ¬ sqAt l (d[p]'hpd) < far := by
          rcases hend with h | ⟨h, h'⟩
          · omega
          · exact h'
        have := near_mono hd hj hjp
        omega
      have hpts : ptsN l d m far = p := by
        refine ptsN_at (by omega) hpm hlt ?_
        by_cases e : p = m
        · exact .inl e
        · exact .inr ⟨by omega, by have := hge p (by omega) (Nat.le_refl _); omega⟩
      have hcK : cK l T (some far) l.length = p := by
        rw [cK_near hd]
        have hsp : d = d.take p ++ d.drop p := (List.take_append_drop p d).symm
        conv => lhs; rw [hsp]
        rw [List.filter_append, List.length_append, List.filter_eq_self.2, List.filter_eq_nil_iff.2]
        · rw [List.length_take, List.length_nil]; omega
        · intro i hi
          obtain ⟨j, hj, rfl⟩ := List.getElem_of_mem hi
          rw [List.length_drop] at hj
          rw [List.getElem_drop]
          have := hge (p + j) (by omega) (by omega)
          simp
          intro _
          omega
        · intro i hi
          obtain ⟨j, hj, rfl⟩ := List.getElem_of_mem hi
          rw [List.length_take] at hj
          rw [List.getElem_take]
          simp [hbef j (by omega), hlt j (by omega) (by omega)]
      rw [hpts]
      have h0 : sqAt l a ≤ far := by
        have := near_mono hd hm (Nat.zero_le m)
        rw [e0, hfar] at this; exact this
      have hp0 : p = 0 ↔ sqAt l a = far := by
        constructor
        · intro h
          have := hge 0 hd0 (by omega)
          rw [e0] at this; omega
        · intro h
          rcases Nat.eq_zero_or_pos p with h' | h'
          · exact h'
          · have := hlt 0 hd0 h'
            rw [e0] at this; omega
      unfold refT
      rcases hT01 with rfl | rfl
      · have hb1 : bT l 1 l.length = some far := hbU
        rw [hbT, hb1]
        show _ = (if sqAt l a = far then _ else if far < sqAt l a then _ else _ : Int × Int)
        by_cases hp1 : p = 0
        · rw [if_pos hp1, if_pos (hp0.1 hp1)]
        · rw [if_neg hp1, if_neg (fun h => hp1 (hp0.2 h)), if_neg (by omega), hcK]
      · have : bT l 0 l.length = some far := hbU
        rw [hbT, this]
        show _ = (if far = sqAt l a then _ else if sqAt l a < far then _ else _ : Int × Int)
        by_cases hp1 : p = 0
        · rw [if_pos hp1, if_pos (hp0.1 hp1).symm]
        · rw [if_neg hp1, if_neg (fun h => hp1 (hp0.2 h.symm)), if_pos (by have := fun h => hp1 (hp0.2 h); omega), hcK]


end Go.Proofs.Ytmcpnoailbmkkaa
/- Layer 2: Count. -/
namespace Go.Proofs.Ytmcpnoailbmkkaa
open Go Go.RowKit Go.Proofs
attribute [local irreducible] J JQ JL JA JD

def PrN (f : FuncId) (caps : Array Value) (p : Nat → Bool) (l : List Nat) (w0 : World) : Prop := ∀ x ∈ l, ∀ W, Below w0.heap.size w0 W → Calls Try.prog f (#[] ++ #[.int .i64 (x : Nat)] ++ caps) W (Back (.bool (p x)) W)
theorem teamAt_get {l : List St} {i : Nat} {x : St} (h : i < l.length) (hx : l[i]'h = x) : teamAt l i = x.t := by
 unfold teamAt; rw [List.getD_eq_getElem?_getD, List.getElem?_eq_getElem h, hx]; rfl
set_option maxRecDepth 100000 in
set_option maxHeartbeats 4000000 in
theorem IndexFuncN (f : FuncId) (caps : Array Value) (p : Nat → Bool) (l : List Nat) (v : Value) (w : World) [hf : Cf Try.prog f] (hcl : PrN f caps p l w) (hrow : Arr 1 eN w v l) : Calls Try.prog 23 #[v, .func (.func f) #[] caps] w (Back (.int .i64 (fidx p l)) w) := by
 have hrow0 := hrow
 obtain ⟨A, cap, rfl, -, ⟨hl, -⟩, hA⟩ := hrow
 refine J_enter (fun _ => False) (vs := [.slice A l.length cap, .func (.func f) #[] caps]) (k := 17) (l := [(0, .slice A l.length cap), (1, .func (.func f) #[] caps)]) Try.func23 rfl rfl Try.ntmps23 rfl rfl (Wd.start _) ?_
 refine s14 ?_
 refine xL (T := Nat) (fun k => k ≤ l.length ∧ ∀ j (hj : j < l.length), j < k → p (l[j]'hj) = false) (fun k => [(0, .slice A l.length cap), (1, .func (.func f) #[] caps), (7, .int .i64 (l.length : Nat)), (8, .int .i64 (k : Nat))]) (fun k => []) (fun k => l.length - k) 0 ⟨Nat.zero_le _, fun j _ h => absurd h (Nat.not_lt_zero _)⟩ ?_
 rintro k ⟨hk, hall⟩
 refine s3 ?_
 refine JL_dec (fun h9 => ?_) (fun h9 => ?_)
 ·refine s15 ?_
  have hltx : k < l.length := by omega
  obtain ⟨bx, qx, rfl, hh⟩ := hA (by intro e; subst e; simp at hltx)
  obtain ⟨x, hx⟩ : ∃ y, l[k]'hltx = y := ⟨_, rfl⟩
  have hmx : x ∈ l := by rw [← hx]; exact List.getElem_mem _
  refine s5 ?_
  refine aV (vHold (v := .int .i64 (x : Nat)) rfl rfl (fun h => h) hh hltx (by omega) (by rw [hx]; rfl)) ?_
  refine aW (ow_callB (ec_val rfl rfl rfl Cf.h) rfl rfl (fun w hw => hcl x hmx w hw.bel)) (fun _ _ => ?_)
  refine JL_bool (fun h16 => ?_) (fun h16 => ?_)
  ·refine s4 ?_
   refine kJ [(5, _)] ?_
   refine s11 ?_
   refine JR_one rfl (rr_tmp rfl) ?_
   intro w' hw
   exact ⟨by rw [fidx_at hltx (by rw [hx]; exact h16) (fun j hj => hall j (by omega) hj)], hw.bel⟩
  ·refine s6 ?_
   refine kJ [(0, _), (1, _), (7, _), (8, _)] ?_
   refine s4 ?_
   have hn : ∀ j (hj : j < l.length), j < k + 1 → p (l[j]'hj) = false := fun j hj hjk => by
    rcases Nat.lt_or_ge j k with h | h
    ·exact hall j hj h
    ·obtain rfl : j = k := by omega
     rw [hx]; exact h16
   exact xR (k + 1) ⟨by omega, hn⟩ (by omega) (hl := ⟨rfl, rfl, rfl, (congrArg some (by go_num)), trivial⟩)
 ·refine s10 ?_
  refine kJ [] ?_
  refine s5 ?_
  refine JR_one rfl (rr_tmp rfl) ?_
  intro w' hw
  exact ⟨by rw [fidx_none (fun j hj => hall j hj (by omega))], hw.bel⟩
set_option maxRecDepth 100000 in
set_option maxHeartbeats 4000000 in
theorem cnt1_any (l : List St) (A : Option Addr) (cap b b2 : Nat) (T : Int) (i : Nat) (w : World) (hc : (cellB b [.slice A l.length cap] 32).holds w) (hc2 : (cellB b2 [.int .i64 T] 3).holds w) (hrow : Arr 4 eT w (.slice A l.length cap) l) (hi : i < l.length) : Calls Try.prog 24 (#[] ++ #[.int .i64 (i : Nat)] ++ #[.pointer (some ⟨b, 0, none⟩), .pointer (some ⟨b2, 0, none⟩)]) w (Back (.bool (decide (teamAt l i ≠ T))) w) := by
 obtain ⟨A', cap', e0, -, ⟨hl, -⟩, hAl⟩ := hrow
 obtain ⟨rfl, -, rfl⟩ : A = A' ∧ True ∧ cap = cap' := by injection e0 with e1 _ e3; exact ⟨e1, trivial, e3⟩
 obtain ⟨bx, qx, rfl, hh⟩ := hAl (by intro e; subst e; simp at hi)
 have hltx : i < l.length := hi
 obtain ⟨⟨xt, xn, xx, xy⟩, hx⟩ : ∃ y, l[i]'hltx = y := ⟨_, rfl⟩
 have hmx : (⟨xt, xn, xx, xy⟩ : St) ∈ l := by rw [← hx]; exact List.getElem_mem _
 refine J_enter (fun _ => False) (vs := [.int .i64 (i : Nat), .pointer (some ⟨b, 0, none⟩), .pointer (some ⟨b2, 0, none⟩)]) (k := 9) (l := [(0, .int .i64 (i : Nat)), (1, .pointer (some ⟨b, 0, none⟩)), (2, .pointer (some ⟨b2, 0, none⟩))]) Try.func24 rfl rfl Try.ntmps24 rfl rfl (Wd.start _) ?_
 refine s6 ?_
 refine xD [0, 1, 2, 3, 4, 5, 6, 7] [0, 4, 5] ?_
 refine dL rfl (vOld rfl rfl (fun h => h) (cellB_get hc rfl)) ?_
 refine s1 ?_
 refine dP rfl (pIdxI (i) rfl rfl rfl) ?_
 refine s1 ?_
 refine dL rfl (vHold (v := .int .i64 xt) rfl rfl (fun h => h) hh hltx (by omega) (by rw [hx]; rfl)) ?_
 refine dL rfl (vOld rfl rfl (fun h => h) (cellB_get hc2 rfl)) ?_
 refine s5 ?_
 refine JR_one rfl (rr_tmp rfl) ?_
 intro w' hw
 exact ⟨by rw [teamAt_get hltx hx], hw.bel⟩
/-- Who counts, how many; the error. -/
def cntF (l : List St) : Int × Int × Int := if chkB l = true then ((refT l).1, (refT l).2, 0) else (0, 0, 2)
theorem cnt_at {l : List St} {L : List Nat} {p q : Int} (hc : chkB l = true) (hL : NrP l L) (h : cntT l L = (p, q)) : Value.tuple #[.int .i64 p, .int .i64 q, .int .i64 0] = .tuple #[.int .i64 (cntF l).1, .int .i64 (cntF l).2.1, .int .i64 (cntF l).2.2] := by
 have h1 := cnt_ref hL (fun i hi => by
  have hi2 := hsA_mem (hL.1.mem_iff.1 hi)
  have h2 := (chk_facts hc).2 i hi2
  rw [teamAt_get hi2 rfl]
  unfold okSt at h2
  omega)
 unfold cntF
 rw [if_pos hc, ← h1, h]
theorem bne_dec (l : List St) (T : Int) : (fun i => teamAt l i != T) = fun i => decide (teamAt l i ≠ T) := by
 funext i
 by_cases h : teamAt l i = T
 ·simp [h]
 ·simp [h]
set_option maxRecDepth 100000 in
set_option maxHeartbeats 4000000 in
theorem Count_any (l : List St) (v : Value) (w : World) (hrow : Arr 4 eT w v l) : Calls Try.prog 11 #[v] w (Back (.tuple #[.int .i64 (cntF l).1, .int .i64 (cntF l).2.1, .int .i64 (cntF l).2.2]) w) := by
 have hrow0 := hrow
 obtain ⟨A, cap, rfl, -, ⟨hl, -⟩, hA⟩ := hrow
 refine J_enter (fun _ => False) (vs := [.slice A l.length cap]) (k := 61) (l := [(0, .slice A l.length cap)]) Try.func11 rfl rfl Try.ntmps11 rfl rfl (Wd.start _) ?_
 refine s2 ?_
 refine aW (oX [_]) (fun b1 hb1 => ?_)
 refine aW oA (fun b2 hb2 => ?_)
 refine s8 ?_
 refine aCB (fun w hw => Check_any l _ w (hrow0.up ET hw.bel)) ?_
 refine JL_bool (fun h9 => ?_) (fun h9 => ?_)
 ·refine s7 ?_
  have hl16 := (chk_facts h9).1
  have okm : ∀ s ∈ l, okSt s := fun s hs => by
   obtain ⟨j, hj, rfl⟩ := List.getElem_of_mem hs
   exact (chk_facts h9).2 j hj
  refine kJ [(1, _), (2, _), (3, _)] ?_
  refine s2 ?_
  refine aW (oR (fun w hw => nearest_any l _ w (hrow0.up ET hw.bel) (fun s hs => (okm s hs).2.1) (fun s hs => (okm s hs).2.2) (by omega))) (fun t12 ht12 => ?_)
  obtain ⟨L, lA, lc⟩ := t12
  dsimp only at ht12 ⊢
  have hL := ht12
  refine s9 ?_
  refine JL_dec (fun h15 => ?_) (fun h15 => ?_)
  ·refine s4 ?_
   refine kJ [(2, _)] ?_
   refine s8 ?_
   refine JR_three rfl (rr_cell rfl Agg.h (by repeat constructor) (by rfl)) (rr_tmp rfl) (rr_tmp rfl) ?_
   intro w' hw
   obtain rfl : L = [] := List.length_eq_zero_iff.1 (by omega)
   exact ⟨congrArg Ending.returned (cnt_at h9 hL (p := -1) (q := 0) rfl), hw.bel⟩
  ·refine s6 ?_
   obtain ⟨a, ds, rfl⟩ : ∃ a ds, L = a :: ds := by
    cases L with
    | nil => exact absurd rfl h15
    | cons a ds => exact ⟨a, ds, rfl⟩
   refine J_fact (fun hw => ?_)
   obtain ⟨g, rfl⟩ := own_some hw (ty := 3) (k := 1) (m := (a :: ds).length) (c := lc) (A := lA) (xs := (a :: ds).flatMap eN) (by repeat constructor) (by simp)
   clear hw
   have hLl : ∀ i ∈ a :: ds, i < l.length := fun i hi => hsA_mem (hL.1.mem_iff.1 hi)
   have hal : a < l.length := hLl a (by simp)
   obtain ⟨bx, qx, rfl, hh⟩ := hA (by intro e; subst e; simp at hal)
   obtain ⟨⟨xt, xn, xx, xy⟩, hx⟩ : ∃ y, l[a]'hal = y := ⟨_, rfl⟩
   have hta : teamAt l a = xt := teamAt_get hal hx
   have hL0 : 0 < (a :: ds).length := by simp
   have hL16 : (a :: ds).length ≤ 16 := by rw [hL.1.length_eq]; have := hsN_len l l.length; unfold hsA; omega
   refine kJ [(1, _), (2, _), (3, _), (5, _)] ?_
   refine xDx [0, 1, 2, 3, 4, 5, 6, 7] [] [0, 3, 6] [cellB b1 [.slice (some ⟨bx, qx, none⟩) l.length cap] 32, ownB 3 1 (some ⟨g, 0, none⟩) (a :: ds).length lc ((a :: ds).flatMap eN)] ?_
   refine s2 ?_
   refine dP rfl (pIdxI (0) rfl rfl rfl rfl) ?_
   refine dX rfl (vOwn (v := .int .i64 (a : Nat)) EN (L := a :: ds) (j := 0) rfl rfl (by repeat constructor) (by simp) (by omega) rfl) ?_
   refine dP rfl (pIdxI (a) rfl rfl rfl) ?_
   refine s1 ?_
   refine dX rfl (vHold (v := .int .i64 xt) rfl rfl (fun h => h) hh hal (by omega) (by rw [hx]; rfl)) ?_
   refine s4 ?_
   refine kJ [(1, _), (2, _), (3, _), (5, _)] ?_
   refine s3 ?_
   refine aCB (fun w hw => IndexFuncN 24 #[.pointer (some ⟨b1, 0, none⟩), .pointer (some ⟨b2, 0, none⟩)] (fun i => decide (teamAt l i ≠ xt)) (a :: ds) _ w (fun i hi W hW => cnt1_any l (some ⟨bx, qx, none⟩) cap b1 b2 xt i W ((hw.up hW).ok (cellB b1 [.slice (some ⟨bx, qx, none⟩) l.length cap] 32) (by repeat constructor)).1 ((hw.up hW).ok (cellB b2 [.int .i64 (xt)] 3) (by repeat constructor)).1 (hrow0.up ET (hw.up hW).bel) (hLl i hi)) (own_arr (A := some ⟨g, 0, none⟩) (c := lc) EN hw (by repeat constructor) (by omega))) ?_
   refine s8 ?_
   refine JL_dec (fun h27 => ?_) (fun h27 => ?_)
   ·refine s4 ?_
    refine kJ [(2, _), (5, _)] ?_
    refine s11 ?_
    refine JR_three rfl (rr_cell rfl Agg.h (by repeat constructor) (by rfl)) (rr_tmp rfl) (rr_tmp rfl) ?_
    intro w' hw
    exact ⟨congrArg Ending.returned (cnt_at h9 hL (p := xt) (q := (((a :: ds).length : Nat) : Int)) (by unfold cntT; dsimp only; rw [hta, bne_dec, if_pos h27])), hw.bel⟩
   ·refine s6 ?_
    rcases fidx_two (fun i => decide (teamAt l i ≠ xt)) (a :: ds) with ⟨hfm, -⟩ | ⟨m, hm, hfm, -, -⟩
    ·exact absurd (by rw [hfm]; decide) h27
    rw [hfm]
    obtain ⟨far, hfar⟩ : ∃ far, sqAt l ((a :: ds)[m]'hm) = far := ⟨_, rfl⟩
    obtain ⟨u, hu⟩ : ∃ u, (a :: ds)[m]'hm = u := ⟨_, rfl⟩
    have hul : u < l.length := hLl u (by rw [← hu]; exact List.getElem_mem _)
    obtain ⟨⟨yt, yn, yx, yy⟩, hy⟩ : ∃ y, l[u]'hul = y := ⟨_, rfl⟩
    have hmy : (⟨yt, yn, yx, yy⟩ : St) ∈ l := by rw [← hy]; exact List.getElem_mem _
    have hfy : sqd yx yy = far := by rw [← hfar, hu, sqAt_get hul hy]
    refine kJ [(1, _), (2, _), (3, _), (5, _), (6, _)] ?_
    refine xD [0, 1, 2, 3, 4, 5, 6, 7, 8, 9] [0, 4, 7] ?_
    refine s3 ?_
    refine dP rfl (pIdxI (m) rfl rfl rfl) ?_
    refine dL rfl (vOwn (v := .int .i64 (u : Nat)) EN (L := a :: ds) (j := m) rfl rfl (by repeat constructor) hm (by omega) (by rw [hu]; rfl)) ?_
    refine dP rfl (pIdxI (u) rfl rfl rfl) ?_
    refine s1 ?_
    refine dL rfl (vHoldP (i := 2) (m := 2) (cs := [.int .i64 yx, .int .i64 yy]) rfl rfl (fun h => h) hh hul rfl (by omega) (by rw [hy]; rfl)) ?_
    refine dCB rfl (fun w hw => square_any yx yy (play_bound (okm _ hmy).2.2) w) ?_
    refine s5 ?_
    refine xL (T := Nat) (fun k => k ≤ m ∧ ∀ j (hj : j < (a :: ds).length), j < k → sqAt l ((a :: ds)[j]'hj) < far) (fun k => [(1, .pointer (some ⟨b1, 0, none⟩)), (2, .pointer (some ⟨b2, 0, none⟩)), (3, .int .i64 (k : Nat)), (5, .slice (some ⟨g, 0, none⟩) (a :: ds).length lc), (6, .int .i64 (m : Nat)), (7, .int .i64 far)]) (fun k => [cellB b1 [.slice (some ⟨bx, qx, none⟩) l.length cap] 32, cellB b2 [.int .i64 (xt)] 3, ownB 3 1 (some ⟨g, 0, none⟩) (a :: ds).length lc ((a :: ds).flatMap eN)]) (fun k => m - k) 0 ⟨Nat.zero_le _, fun j _ h => absurd h (Nat.not_lt_zero _)⟩ ?_ (hl := ⟨rfl, rfl, rfl, rfl, rfl, (by rw [hfy]; rfl), trivial⟩)
    rintro k ⟨hkm, hall⟩
    refine s2 ?_
    by_cases hkm2 : k < m
    ·have hkd : k < (a :: ds).length := by omega
     obtain ⟨v, hv⟩ : ∃ v, (a :: ds)[k]'hkd = v := ⟨_, rfl⟩
     have hvl : v < l.length := hLl v (by rw [← hv]; exact List.getElem_mem _)
     obtain ⟨⟨zt, zn, zx, zy⟩, hz⟩ : ∃ y, l[v]'hvl = y := ⟨_, rfl⟩
     have hmz : (⟨zt, zn, zx, zy⟩ : St) ∈ l := by rw [← hz]; exact List.getElem_mem _
     refine xD [0, 1, 2, 3, 4, 5, 6, 7, 8, 9, 10, 11, 13, 12, 14] [4, 8, 11] ?_
     refine s3 ?_
     refine dDecT ?_ (by omega)
     refine s4 ?_
     refine dP rfl (pIdxI (k) rfl rfl rfl) ?_
     refine dL rfl (vOwn (v := .int .i64 (v : Nat)) EN (L := a :: ds) (j := k) rfl rfl (by repeat constructor) hkd (by omega) (by rw [hv]; rfl)) ?_
     refine dP rfl (pIdxI (v) rfl rfl rfl) ?_
     refine s1 ?_
     refine dL rfl (vHoldP (i := 2) (m := 2) (cs := [.int .i64 zx, .int .i64 zy]) rfl rfl (fun h => h) hh hvl rfl (by omega) (by rw [hz]; rfl)) ?_
     refine s1 ?_
     refine dCB rfl (fun w hw => square_any zx zy (play_bound (okm _ hmz).2.2) w) ?_
     refine s1 ?_
     refine dDec (fun h54 => ?_) (fun h54 => ?_)
     ·refine dO [15] ?_
      refine s7 ?_
      refine kJ [(1, _), (2, _), (3, _), (5, _), (6, _), (7, _)] ?_
      refine s6 ?_
      have hn : ∀ j (hj : j < (a :: ds).length), j < k + 1 → sqAt l ((a :: ds)[j]'hj) < far := fun j hj hjk => by
       rcases Nat.lt_or_ge j k with h | h
       ·exact hall j hj h
       ·obtain rfl : j = k := by omega
        rw [hv, sqAt_get hvl hz]; exact h54
      exact xR (k + 1) ⟨by omega, hn⟩ (by omega) (hl := ⟨rfl, rfl, (congrArg some (by go_num)), rfl, rfl, rfl, trivial⟩)
     ·refine dO [15] ?_
      refine s11 ?_
      refine kJ [(2, _), (3, _)] ?_
      refine s3 ?_
      refine JL_dec (fun h59 => ?_) (fun h59 => ?_)
      ·refine s12 ?_
       refine JR_three rfl (rr_cell rfl Agg.h (by repeat constructor) (by rfl)) (rr_tmp rfl) (rr_tmp rfl) ?_
       intro w' hw
       have hpt : ptsN l (a :: ds) m far = k := ptsN_at (by omega) hkm hall (.inr ⟨by omega, by rw [hv, sqAt_get hvl hz]; exact h54⟩)
       have hgd : (a :: ds).getD m 0 = u := by rw [List.getD_eq_getElem?_getD, List.getElem?_eq_getElem hm, hu]; rfl
       have hsu : sqAt l u = far := by rw [← hfar, hu]
       exact ⟨congrArg Ending.returned (cnt_at h9 hL (p := -1) (q := 0) (by unfold cntT; dsimp only; rw [hta, bne_dec, hfm, if_neg (by omega), Int.toNat_natCast, hgd, hsu, hpt, if_pos (by omega)])), hw.bel⟩
      ·refine s15 ?_
       refine JR_three rfl (rr_cell rfl Agg.h (by repeat constructor) (by rfl)) (rr_tmp rfl) (rr_tmp rfl) ?_
       intro w' hw
       have hpt : ptsN l (a :: ds) m far = k := ptsN_at (by omega) hkm hall (.inr ⟨by omega, by rw [hv, sqAt_get hvl hz]; exact h54⟩)
       have hgd : (a :: ds).getD m 0 = u := by rw [List.getD_eq_getElem?_getD, List.getElem?_eq_getElem hm, hu]; rfl
       have hsu : sqAt l u = far := by rw [← hfar, hu]
       exact ⟨congrArg Ending.returned (cnt_at h9 hL (p := xt) (q := ((k : Nat) : Int)) (by unfold cntT; dsimp only; rw [hta, bne_dec, hfm, if_neg (by omega), Int.toNat_natCast, hgd, hsu, hpt, if_neg (by omega)])), hw.bel⟩
    ·refine xD [0, 1, 2, 3, 4, 5, 6, 7, 8, 9, 10, 11, 12, 13, 14, 15] [4, 8, 11] ?_
     refine s3 ?_
     refine dDecF ?_ (by omega)
     refine s23 ?_
     refine kJ [(2, _), (3, _)] ?_
     refine s3 ?_
     refine JL_dec (fun h59 => ?_) (fun h59 => ?_)
     ·refine s12 ?_
      refine JR_three rfl (rr_cell rfl Agg.h (by repeat constructor) (by rfl)) (rr_tmp rfl) (rr_tmp rfl) ?_
      intro w' hw
      have hpt : ptsN l (a :: ds) m far = k := ptsN_at (by omega) hkm hall (.inl (by omega))
      have hgd : (a :: ds).getD m 0 = u := by rw [List.getD_eq_getElem?_getD, List.getElem?_eq_getElem hm, hu]; rfl
      have hsu : sqAt l u = far := by rw [← hfar, hu]
      exact ⟨congrArg Ending.returned (cnt_at h9 hL (p := -1) (q := 0) (by unfold cntT; dsimp only; rw [hta, bne_dec, hfm, if_neg (by omega), Int.toNat_natCast, hgd, hsu, hpt, if_pos (by omega)])), hw.bel⟩
     ·refine s15 ?_
      refine JR_three rfl (rr_cell rfl Agg.h (by repeat constructor) (by rfl)) (rr_tmp rfl) (rr_tmp rfl) ?_
      intro w' hw
      have hpt : ptsN l (a :: ds) m far = k := ptsN_at (by omega) hkm hall (.inl (by omega))
      have hgd : (a :: ds).getD m 0 = u := by rw [List.getD_eq_getElem?_getD, List.getElem?_eq_getElem hm, hu]; rfl
      have hsu : sqAt l u = far := by rw [← hfar, hu]
      exact ⟨congrArg Ending.returned (cnt_at h9 hL (p := xt) (q := ((k : Nat) : Int)) (by unfold cntT; dsimp only; rw [hta, bne_dec, hfm, if_neg (by omega), Int.toNat_natCast, hgd, hsu, hpt, if_neg (by omega)])), hw.bel⟩
 ·refine s5 ?_
  refine kJ [(2, _)] ?_
  refine s8 ?_
  refine JR_three rfl (rr_cell rfl Agg.h (by repeat constructor) (by rfl)) (rr_tmp rfl) (rr_tmp rfl) ?_
  intro w' hw
  exact ⟨by unfold cntF; rw [h9]; rfl, hw.bel⟩
end Go.Proofs.Ytmcpnoailbmkkaa
/- Layers 2, 7: Score; Count (document). -/
namespace Go.Proofs.Ytmcpnoailbmkkaa
open Go Go.RowKit Go.Proofs
attribute [local irreducible] J JQ JL JA JD

/-- Who counts in an end. -/
def scoF (E : En) : Int × Int × Int := if E.tn = 2 * E.c.e then cntF E.l else (0, 0, 9)
theorem hsA_iff {l : List St} {k : Nat} {x : St} (hk : k < l.length) (hx : l[k]'hk = x) : k ∈ hsA l ↔ InH x.x x.y := by
 unfold hsA hsN
 rw [List.mem_filter, List.mem_range]
 have e : l.getD k ⟨0, 0, 0, 0⟩ = x := by rw [List.getD_eq_getElem?_getD, List.getElem?_eq_getElem hk, hx]; rfl
 rw [e, decide_eq_true_eq]
 exact ⟨fun h => h.2, fun h => ⟨hk, h⟩⟩
theorem bT_y {l : List St} {t : Int} {k : Nat} {x : St} (hk : k < l.length) (hx : l[k]'hk = x) (h1 : x.t = t) (h2 : InH x.x x.y) (h3 : bT l t k = none ∨ sqd x.x x.y < (bT l t k).getD 0) : bT l t (k + 1) = some (sqd x.x x.y) := by
 have e := sqAt_get hk hx
 show (if _ then _ else _) = _
 rw [if_pos ⟨⟨by rw [teamAt_get hk hx]; exact h1, (hsA_iff hk hx).2 h2⟩, by rw [e]; exact h3⟩, e]
theorem bT_n {l : List St} {t : Int} {k : Nat} {x : St} (hk : k < l.length) (hx : l[k]'hk = x) (h : ¬ ((x.t = t ∧ InH x.x x.y) ∧ (bT l t k = none ∨ sqd x.x x.y < (bT l t k).getD 0))) : bT l t (k + 1) = bT l t k := by
 have e := sqAt_get hk hx
 show (if _ then _ else _) = _
 rw [if_neg (fun h' => h ⟨⟨by rw [← teamAt_get hk hx]; exact h'.1.1, (hsA_iff hk hx).1 h'.1.2⟩, by rw [← e]; exact h'.2⟩)]
theorem cK_y {l : List St} {t : Int} {lim : Option Int} {k : Nat} {x : St} (hk : k < l.length) (hx : l[k]'hk = x) (h1 : x.t = t) (h2 : InH x.x x.y) (h3 : lim = none ∨ sqd x.x x.y < lim.getD 0) : cK l t lim (k + 1) = cK l t lim k + 1 := by
 show cK l t lim k + (if _ then 1 else 0) = _
 rw [if_pos ⟨⟨by rw [teamAt_get hk hx]; exact h1, (hsA_iff hk hx).2 h2⟩, by rw [sqAt_get hk hx]; exact h3⟩]
theorem cK_n {l : List St} {t : Int} {lim : Option Int} {k : Nat} {x : St} (hk : k < l.length) (hx : l[k]'hk = x) (h : ¬ ((x.t = t ∧ InH x.x x.y) ∧ (lim = none ∨ sqd x.x x.y < lim.getD 0))) : cK l t lim (k + 1) = cK l t lim k := by
 show cK l t lim k + (if _ then 1 else 0) = _
 rw [if_neg (fun h' => h ⟨⟨by rw [← teamAt_get hk hx]; exact h'.1.1, (hsA_iff hk hx).1 h'.1.2⟩, by rw [← sqAt_get hk hx]; exact h'.2⟩)]; rfl
set_option maxRecDepth 100000 in
set_option maxHeartbeats 4000000 in
theorem Score_any (b : Nat) (e : EnM) (w : World) (h : EndW w b e) (hok : EnOk e.pl) : Calls Try.prog 18 #[.pointer (some ⟨b, 0, none⟩)] w (Back (.tuple #[.int .i64 (scoF e.pl).1, .int .i64 (scoF e.pl).2.1, .int .i64 (scoF e.pl).2.2]) w) := by
 obtain ⟨⟨kf, kt, ks, ke, kp⟩, fr, l, sA, sk, tn, pd⟩ := e
 have hc : (cellB b [.int .i64 kf, .int .i64 kt, .int .i64 ks, .int .i64 ke, .bool kp, .bool true, .int .i64 fr, .slice sA l.length sk, .int .i64 tn, .pointer (pdA pd)] 78).holds w := h.cell
 have he := hok.e
 dsimp only [EnM.pl] at he
 refine J_enter (fun _ => False) (vs := [.pointer (some ⟨b, 0, none⟩)]) (k := 20) (l := [(0, .pointer (some ⟨b, 0, none⟩))]) Try.func18 rfl rfl Try.ntmps18 rfl rfl (Wd.start _) ?_
 refine s12 ?_
 refine aCB (fun w hw => is_any b kf kt ks ke kp true fr sA l.length sk tn _ w (It.up_cell hc hw.bel)) ?_
 refine aBoolT ?_ rfl
 refine s6 ?_
 refine kJ [(0, _)] ?_
 refine s2 ?_
 refine aCB (fun w hw => over_any b kf kt ks ke kp true fr sA l.length sk tn _ w (It.up_cell hc hw.bel) (by omega)) ?_
 refine JL_dec (fun h11 => ?_) (fun h11 => ?_)
 ·refine s9 ?_
  refine kJ [(0, _)] ?_
  refine s4 ?_
  refine aV (vOld rfl rfl (fun h => h) (cellB_get hc rfl)) ?_
  refine aCB (fun w hw => Count_any l _ w (h.row.up ET hw.bel)) ?_
  refine s9 ?_
  refine JR_three rfl (rr_tmp rfl) (rr_tmp rfl) (rr_tmp rfl) ?_
  intro w' hw
  exact ⟨by unfold scoF EnM.pl; dsimp only; rw [if_pos h11], hw.bel⟩
 ·refine s6 ?_
  refine kJ [] ?_
  refine s9 ?_
  refine JR_three rfl (rr_tmp rfl) (rr_tmp rfl) (rr_tmp rfl) ?_
  intro w' hw
  exact ⟨by unfold scoF EnM.pl; dsimp only; rw [if_neg h11], hw.bel⟩
end Go.Proofs.Ytmcpnoailbmkkaa
/- Layer 7, in plain Lean: rulings and ends of mirrored throws, and of throws with the teams exchanged. (Carried over from wip/rules.) -/
namespace Go.Proofs.Ytmcpnoailbmkkaa
open Go Go.RowKit Go.Proofs
theorem goodF_iff : ∀ (l pre : List St), goodF pre l = true ↔ (∀ s ∈ l, okSt s) ∧ (∀ a ∈ pre, ∀ b ∈ l, nameB a b = false) ∧ l.Pairwise (fun a b => nameB a b = false)
 | [], pre => by simp [goodF]
 | s :: r, pre => by
  unfold goodF
  rw [Bool.and_eq_true, Bool.and_eq_true, goodF_iff r (pre ++ [s]), List.all_eq_true, List.pairwise_cons]
  simp only [decide_eq_true_eq, List.mem_cons, List.mem_append, List.not_mem_nil, or_false, Bool.not_eq_true']
  constructor
  ·rintro ⟨⟨h1, h2⟩, h3, h4, h5⟩
   refine ⟨?_, ?_, fun b hb => h4 s (.inr rfl) b hb, h5⟩
   ·rintro x (rfl | hx)
    ·exact h1
    ·exact h3 x hx
   ·rintro a ha b (rfl | hb)
    ·exact h2 a ha
    ·exact h4 a (.inl ha) b hb
  ·rintro ⟨h1, h2, h3, h4⟩
   refine ⟨⟨h1 s (.inl rfl), fun a ha => h2 a ha s (.inl rfl)⟩, fun x hx => h1 x (.inr hx), ?_, h4⟩
   rintro a (ha | rfl) b hb
   ·exact h2 a ha b (.inr hb)
   ·exact h3 b hb
theorem fidx_neg {α : Type} (p : α → Bool) (l : List α) : fidx p l < 0 ↔ ∀ x ∈ l, p x = false := by
 unfold fidx
 split
 ·rename_i h
  constructor
  ·intro h1; omega
  ·intro h1
   have := List.findIdx_getElem (w := h)
   rw [h1 _ (List.getElem_mem h)] at this; cases this
 ·rename_i h
  constructor
  ·intro _ x hx
   cases e : p x
   ·rfl
   ·exact absurd (List.findIdx_lt_length_of_exists ⟨x, hx, e⟩) h
  ·intro _; omega
theorem pairF_iff {α : Type} (h : α → α → Bool) : ∀ (l : List α) (i : Nat), (pairF h l i).1 < 0 ↔ l.Pairwise (fun a b => h a b = false)
 | [], i => by simp [pairF]
 | a :: l, i => by
  unfold pairF
  rw [List.pairwise_cons, ← fidx_neg]
  split
  ·rename_i h0
   constructor
   ·intro h1; simp only at h1; omega
   ·rintro ⟨h1, -⟩; omega
  ·rename_i h0
   rw [pairF_iff h l (i + 1)]
   exact ⟨fun h1 => ⟨by omega, h1⟩, fun h1 => h1.2⟩
/-- What a valid position is. -/
theorem chk_iff (l : List St) : chkB l = true ↔ l.length ≤ 16 ∧ (∀ s ∈ l, okSt s) ∧ l.Pairwise (fun a b => nameB a b = false) ∧ l.Pairwise (fun a b => ovB a b = false) := by
 unfold chkB
 rw [Bool.and_eq_true, Bool.and_eq_true, decide_eq_true_eq, decide_eq_true_eq, goodF_iff, pairF_iff]
 constructor
 ·rintro ⟨⟨h1, h2, -, h3⟩, h4⟩; exact ⟨h1, h2, h3, h4⟩
 ·rintro ⟨h1, h2, h3, h4⟩; exact ⟨⟨h1, h2, fun a ha => (by cases ha), h3⟩, h4⟩
theorem nameB_comm (a b : St) : nameB a b = nameB b a := by unfold nameB; rw [Bool.eq_iff_iff]; simp only [Bool.and_eq_true, beq_iff_eq]; omega
theorem ovB_comm (a b : St) : ovB a b = ovB b a := by
 unfold ovB
 rw [touZ_comm, Bool.eq_iff_iff]
 simp only [decide_eq_true_eq]
 exact ⟨fun ⟨h1, h2, h3⟩ => ⟨h2, h1, h3⟩, fun ⟨h1, h2, h3⟩ => ⟨h2, h1, h3⟩⟩
theorem chk_perm {l m : List St} (hp : l.Perm m) (h : chkB l = true) : chkB m = true := by
 rw [chk_iff] at h ⊢
 obtain ⟨h1, h2, h3, h4⟩ := h
 refine ⟨by rw [← hp.length_eq]; exact h1, fun s hs => h2 s (hp.mem_iff.2 hs), hp.pairwise h3 (fun {a b} h => by rw [nameB_comm]; exact h), hp.pairwise h4 (fun {a b} h => by rw [ovB_comm]; exact h)⟩
theorem chk_filter {l : List St} (p : St → Bool) (h : chkB l = true) : chkB (l.filter p) = true := by
 rw [chk_iff] at h ⊢
 obtain ⟨h1, h2, h3, h4⟩ := h
 exact ⟨Nat.le_trans (List.length_filter_le _ _) h1, fun s hs => h2 s (List.mem_filter.1 hs).1, h3.filter _, h4.filter _⟩
theorem chk_perm_eq {l m : List St} (hp : l.Perm m) : chkB l = chkB m := by
  rw [Bool.eq_iff_iff]; exact ⟨chk_perm hp, chk_perm hp.symm⟩
theorem chk_srt {l : List St} (h : chkB l = true) : chkB (srt l) = true := chk_perm (srt_perm l).symm h
/-- A change of stones that keeps what counts for a position. -/
structure Keeps (f : St → St) : Prop where
  ok : ∀ s, okSt (f s) ↔ okSt s
  nm : ∀ a b, okSt a → okSt b → nameB (f a) (f b) = nameB a b
  ov : ∀ a b, ovB (f a) (f b) = ovB a b
theorem chk_map {f : St → St} (hf : Keeps f) (l : List St) : chkB (l.map f) = chkB l := by
  rw [Bool.eq_iff_iff, chk_iff, chk_iff, List.length_map, List.pairwise_map, List.pairwise_map]
  constructor
  · rintro ⟨h1, h2, h3, h4⟩
    have ho : ∀ s ∈ l, okSt s := fun s hs => (hf.ok s).1 (h2 _ (List.mem_map_of_mem hs))
    exact ⟨h1, ho, h3.imp_of_mem (fun {a b} ha hb h => by rw [← hf.nm a b (ho a ha) (ho b hb)]; exact h), h4.imp (fun {a b} h => by rw [← hf.ov]; exact h)⟩
  · rintro ⟨h1, h2, h3, h4⟩
    refine ⟨h1, ?_, h3.imp_of_mem (fun {a b} ha hb h => by rw [hf.nm a b (h2 a ha) (h2 b hb)]; exact h), h4.imp (fun {a b} h => by rw [hf.ov]; exact h)⟩
    intro s hs
    obtain ⟨x, hx, rfl⟩ := List.mem_map.1 hs
    exact (hf.ok x).2 (h2 x hx)
/-- Left and right exchanged; the teams exchanged. -/
def mirS (s : St) : St := ⟨s.t, s.n, -s.x, s.y⟩
def excS (s : St) : St := ⟨1 - s.t, s.n, s.x, s.y⟩
theorem okS_neg (x y : Int) : OkS (-x) y ↔ OkS x y := by unfold OkS; constructor <;> rintro ⟨h1, h2⟩ <;> exact ⟨by omega, h2⟩
theorem play_neg (x y : Int) : Play (-x) y ↔ Play x y := by unfold Play; rw [ab_neg]
theorem sqd_negx (x y : Int) : sqd (-x) y = sqd x y := by unfold sqd; rw [Int.neg_mul_neg]
theorem touZ_negx (x y : Int) : touZ (-x) y = touZ x y := by unfold touZ; rw [ab_neg, sqd_negx]
theorem zone_neg (x y : Int) : zoneZ (-x) y = zoneZ x y := by
  unfold zoneZ
  rw [sqd_negx]
  by_cases h : Play x y
  · rw [if_pos h, if_pos ((play_neg x y).2 h)]
  · rw [if_neg h, if_neg (fun h' => h ((play_neg x y).1 h'))]
theorem mir_keeps : Keeps mirS where
  ok s := by unfold okSt mirS; simp only; rw [okS_neg, play_neg]
  nm a b _ _ := rfl
  ov a b := by
    unfold ovB mirS
    simp only
    rw [show -a.x - -b.x = -(a.x - b.x) by omega, touZ_negx, Bool.eq_iff_iff]
    simp only [decide_eq_true_eq, okS_neg]
theorem exc_keeps : Keeps excS where
  ok s := by unfold okSt excS; simp only; constructor <;> rintro ⟨⟨h1, h2⟩, h3⟩ <;> exact ⟨⟨by omega, h2⟩, h3⟩
  nm a b _ _ := by unfold nameB excS; simp only; rw [Bool.eq_iff_iff]; simp only [Bool.and_eq_true, beq_iff_eq]; omega
  ov a b := rfl
theorem look_find {l : List St} (hd : dis l) (t n : Int) : lookT l t n = l.find? (isB t n) := by
  have H : ∀ k, k ≤ l.length → lookT (l.take k) t n = (l.take k).find? (isB t n) := by
    intro k
    induction k with
    | zero => intro _; simp [lookT]
    | succ k ih =>
      intro hk
      have hlt : k < l.length := by omega
      rw [List.take_succ_eq_append_getElem hlt, lookT_snoc, List.find?_append, ih (by omega)]
      by_cases h : eqK (l[k]'hlt).t (l[k]'hlt).n t n = true
      · rw [if_pos h]
        have h' := (eqK_iff _ _ _ _).1 h
        cases hf : (l.take k).find? (isB t n) with
        | none => simp [(isB_iff t n _).2 h']
        | some s' =>
          have h2 := List.mem_of_mem_take (List.mem_of_find?_eq_some hf)
          have h3 := (isB_iff _ _ _).1 (List.find?_some hf)
          rw [hd s' h2 _ (List.getElem_mem hlt) (by rw [h3.1, h'.1]) (by rw [h3.2, h'.2])]
          rfl
      · rw [if_neg h]
        have hb : isB t n (l[k]'hlt) = false := by
          cases e : isB t n (l[k]'hlt)
          · rfl
          · exact absurd ((eqK_iff _ _ _ _).2 ((isB_iff _ _ _).1 e)) h
        simp [hb]
  have := H l.length (Nat.le_refl _)
  rwa [List.take_length] at this
theorem thrA_facts {l m : List St} {x : Th} (h : thrA l m x = true) : chkB l = true ∧ chkB m = true ∧ (0 ≤ x.team ∧ x.team ≤ 1) ∧ (0 ≤ x.n ∧ x.n ≤ 7) ∧ (0 ≤ x.how ∧ x.how ≤ 4) := by
  unfold thrA at h
  simp only [Bool.and_eq_true, decide_eq_true_eq] at h
  exact ⟨h.1.1.1.1, h.1.1.1.2, h.1.1.2, h.1.2, h.2⟩
/-- A change of stones and teams under which rulings go along. -/
structure Sym (f : St → St) (τ : Int → Int) : Prop where
  keep : Keeps f
  inv : ∀ s, f (f s) = s
  ht : ∀ s, (f s).t = τ s.t
  hn : ∀ s, (f s).n = s.n
  inj : ∀ a b, τ a = τ b ↔ a = b
  rg : ∀ a, (0 ≤ τ a ∧ τ a ≤ 1) ↔ (0 ≤ a ∧ a ≤ 1)
  hzn : ∀ s, zn (f s).x (f s).y = zn s.x s.y
  hce : ∀ s, cen (f s) = cen s
def thT (τ : Int → Int) (x : Th) : Th := ⟨τ x.team, x.n, x.late, x.short, x.how⟩
section
variable {f : St → St} {τ : Int → Int} (F : Sym f τ)
include F
theorem Sym.eqKF (s : St) (t n : Int) : eqK (f s).t (f s).n (τ t) n = eqK s.t s.n t n := by
  rw [Bool.eq_iff_iff, eqK_iff, eqK_iff, F.ht, F.hn, F.inj]
theorem Sym.isBF (s s' : St) : isB (f s).t (f s).n (f s') = isB s.t s.n s' := by
  rw [Bool.eq_iff_iff, isB_iff, isB_iff, F.ht, F.hn, F.ht, F.hn, F.inj]
theorem Sym.findF (m : List St) (s : St) : (m.map f).find? (isB (f s).t (f s).n) = (m.find? (isB s.t s.n)).map f := by
  rw [List.find?_map]
  congr 1
  refine congrFun (congrArg _ ?_) m
  funext s'
  exact F.isBF s s'
theorem Sym.disF {m : List St} (hd : dis m) : dis (m.map f) := by
  intro a ha b hb h1 h2
  obtain ⟨a', ha', rfl⟩ := List.mem_map.1 ha
  obtain ⟨b', hb', rfl⟩ := List.mem_map.1 hb
  rw [F.ht, F.ht, F.inj] at h1
  rw [F.hn, F.hn] at h2
  rw [hd a' ha' b' hb' h1 h2]
theorem Sym.kpBF (c : Cd) (n team : Int) (s : St) : kpB c n (τ team) (f s) = kpB c n team s := by
  unfold kpB guB
  rw [F.hzn, F.ht]
  have : (τ s.t != τ team) = (s.t != team) := by rw [Bool.eq_iff_iff]; simp [F.inj]
  rw [this]
theorem Sym.fxBF (c : Cd) (n team : Int) (s : St) : fxB c n (τ team) (f s) = fxB c n team s := by
  unfold fxB guB
  rw [F.hzn, F.ht, F.hce]
  have : (τ s.t != τ team) = (s.t != team) := by rw [Bool.eq_iff_iff]; simp [F.inj]
  rw [this]
theorem Sym.remBF (c : Cd) (n team : Int) {m l : List St} (hd : dis m) : remB c n (τ team) (m.map f) (l.map f) = remB c n team m l := by
  unfold remB
  rw [List.any_map]
  refine congrArg l.any (funext fun s => ?_)
  simp only [Function.comp]
  rw [look_find (F.disF hd), look_find hd, F.findF, F.kpBF]
  simp
theorem Sym.movBF (c : Cd) (n team : Int) {m l : List St} (hd : dis m) : movB c n (τ team) (m.map f) (l.map f) = movB c n team m l := by
  unfold movB
  rw [List.any_map]
  refine congrArg l.any (funext fun s => ?_)
  simp only [Function.comp]
  rw [look_find (F.disF hd), look_find hd, F.findF, F.fxBF]
  cases m.find? (isB s.t s.n) with
  | none => simp
  | some s' => simp [F.hce]
theorem Sym.permF {l m : List St} : (l.map f).Perm (m.map f) ↔ l.Perm m := by
  constructor
  · intro h
    have := h.map f
    rw [List.map_map, List.map_map] at this
    have e : f ∘ f = id := funext fun s => F.inv s
    rwa [e, List.map_id, List.map_id] at this
  · exact fun h => h.map f
theorem Sym.bndF {l : List St} (h : chkB l = true) : ∀ s ∈ l.map f, bnd s := chk_bnd (by rw [chk_map F.keep]; exact h)
/-- The sorted stones, changed and sorted anew, are the changed ones, sorted. -/
theorem Sym.srtF {l : List St} (h : chkB l = true) : srt ((srt l).map f) = srt (l.map f) := by
  have h' : chkB (l.map f) = true := by rw [chk_map F.keep]; exact h
  refine srt_uniq (chk_bnd h') (chk_dis h') ((srt_perm _).trans ((srt_perm l).map f)) (srt_pw _)
end
theorem srt_iff {l m : List St} (hl : chkB l = true) : srt l = srt m ↔ l.Perm m := by
  constructor
  · intro h; exact (srt_perm l).symm.trans (by rw [h]; exact srt_perm m)
  · intro h; exact (srt_uniq (chk_bnd hl) (chk_dis hl) ((srt_perm m).trans h.symm) (srt_pw m)).symm
section
variable {f : St → St} {τ : Int → Int} (F : Sym f τ)
include F
theorem Sym.eqLF {l m : List St} (hl : chkB l = true) : eqL (srt (l.map f)) (srt (m.map f)) = eqL (srt l) (srt m) := by
  rw [Bool.eq_iff_iff, eqL_iff, eqL_iff, srt_iff hl, srt_iff (by rw [chk_map F.keep]; exact hl), F.permF]
theorem Sym.thrAF (l m : List St) (x : Th) : thrA (l.map f) (m.map f) (thT τ x) = thrA l m x := by
  unfold thrA
  rw [chk_map F.keep, chk_map F.keep]
  have : decide (0 ≤ (thT τ x).team ∧ (thT τ x).team ≤ 1) = decide (0 ≤ x.team ∧ x.team ≤ 1) := by
    rw [Bool.eq_iff_iff, decide_eq_true_eq, decide_eq_true_eq]; exact F.rg x.team
  rw [this]; rfl
theorem Sym.lookF (l : List St) (t n : Int) : (lookT (l.map f) (τ t) n).isSome = (lookT l t n).isSome := by
  rw [lookT_some, lookT_some, List.any_map]
  refine congrArg l.any (funext fun s => ?_)
  exact F.eqKF s t n
theorem Sym.thrBF (l m : List St) (x : Th) : thrB (l.map f) (m.map f) (thT τ x) = thrB l m x := by
  unfold thrB
  rw [F.thrAF]
  cases hA : thrA l m x
  · rfl
  · rw [F.eqLF (thrA_facts hA).1, List.all_map]
    have h1 : (lookT (l.map f) (thT τ x).team (thT τ x).n).isSome = (lookT l x.team x.n).isSome := F.lookF l x.team x.n
    have h2 : m.all ((fun s => (lookT (l.map f) s.t s.n).isSome || eqK s.t s.n (thT τ x).team (thT τ x).n) ∘ f) = m.all (fun s => (lookT l s.t s.n).isSome || eqK s.t s.n x.team x.n) := by
      refine congrArg m.all (funext fun s => ?_)
      simp only [Function.comp]
      have h3 : (lookT (l.map f) (f s).t (f s).n).isSome = (lookT l s.t s.n).isSome := by rw [F.ht, F.hn]; exact F.lookF l s.t s.n
      have h4 : eqK (f s).t (f s).n (thT τ x).team (thT τ x).n = eqK s.t s.n x.team x.n := F.eqKF s x.team x.n
      rw [h3, h4]
    rw [h1, h2]; rfl
/-- An outcome, changed. -/
def ocF (f : St → St) (q : List St × Bool) : List St × Bool := (srt (q.1.map f), q.2)
theorem Sym.goneF (x : Th) (m : List St) : (m.map f).filter (fun s => !isB (thT τ x).team (thT τ x).n s) = (m.filter (fun s => !isB x.team x.n s)).map f := by
  rw [List.filter_map]
  congr 1
  refine congrFun (congrArg _ ?_) m
  funext s
  simp only [Function.comp]
  have : isB (thT τ x).team (thT τ x).n (f s) = isB x.team x.n s := by
   rw [Bool.eq_iff_iff, isB_iff, isB_iff, F.ht, F.hn]
   show (τ s.t = τ x.team ∧ s.n = x.n) ↔ _
   rw [F.inj]
  rw [this]
theorem Sym.ddF {L : List (List St × Bool)} (h : ∀ q ∈ L, ∃ l0, q.1 = srt l0 ∧ chkB l0 = true) : ddP (L.map (ocF f)) = (ddP L).map (ocF f) := by
  have key : ∀ p q : List St × Bool, (∃ l0, p.1 = srt l0 ∧ chkB l0 = true) → (∃ l0, q.1 = srt l0 ∧ chkB l0 = true) → (ocF f p = ocF f q ↔ p = q) := by
    rintro ⟨p1, p2⟩ ⟨q1, q2⟩ ⟨a, ha, hca⟩ ⟨b, hb, hcb⟩
    simp only at ha hb
    subst ha hb
    unfold ocF
    simp only
    rw [F.srtF hca, F.srtF hcb, Prod.mk.injEq, Prod.mk.injEq, srt_iff hca, srt_iff (by rw [chk_map F.keep]; exact hca), F.permF]
  have H : ∀ (L A : List (List St × Bool)), (∀ q ∈ L, ∃ l0, q.1 = srt l0 ∧ chkB l0 = true) → (∀ q ∈ A, ∃ l0, q.1 = srt l0 ∧ chkB l0 = true) →
      (L.map (ocF f)).foldl (fun r o => if r.any (fun p => decide (p = o)) = true then r else r ++ [o]) (A.map (ocF f)) =
      (L.foldl (fun r o => if r.any (fun p => decide (p = o)) = true then r else r ++ [o]) A).map (ocF f) := by
    intro L
    induction L with
    | nil => intro A _ _; rfl
    | cons o L ih =>
      intro A hL hA
      have ho := hL o (List.mem_cons_self ..)
      simp only [List.map_cons, List.foldl_cons]
      have e : ((A.map (ocF f)).any fun p => decide (p = ocF f o)) = (A.any fun p => decide (p = o)) := by
        rw [List.any_map, Bool.eq_iff_iff, List.any_eq_true, List.any_eq_true]
        constructor
        · rintro ⟨p, hp, h⟩; exact ⟨p, hp, decide_eq_true ((key p o (hA p hp) ho).1 (of_decide_eq_true h))⟩
        · rintro ⟨p, hp, h⟩; exact ⟨p, hp, decide_eq_true ((key p o (hA p hp) ho).2 (of_decide_eq_true h))⟩
      rw [e]
      by_cases hb : (A.any fun p => decide (p = o)) = true
      · rw [if_pos hb, if_pos hb]; exact ih A (fun q hq => hL q (List.mem_cons_of_mem _ hq)) hA
      · rw [if_neg hb, if_neg hb]
        have := ih (A ++ [o]) (fun q hq => hL q (List.mem_cons_of_mem _ hq)) (fun q hq => by
          rcases List.mem_append.1 hq with h | h
          · exact hA q h
          · rw [List.mem_singleton.1 h]; exact ho)
        rwa [List.map_append] at this
  exact H L [] h (fun _ h => by cases h)
theorem Sym.outFF (r : Int) (x : Th) {l m : List St} (hl : chkB l = true) (hm : chkB m = true) :
    outF (l.map f) (m.map f) (thT τ x) r = (outF l m x r).map (ocF f) := by
  have hg : chkB (m.filter (fun s => !isB x.team x.n s)) = true := chk_filter _ hm
  have e1 := F.srtF hl
  have e2 := F.srtF hm
  have e3 := F.srtF hg
  have key : ∀ L : List (List St × Bool), (∀ q ∈ L, q.1 = srt l ∨ q.1 = srt m ∨ q.1 = srt (m.filter (fun s => !isB x.team x.n s))) → ddP (L.map (ocF f)) = (ddP L).map (ocF f) := fun L hL => F.ddF (fun q hq => by
    rcases hL q hq with e | e | e
    · exact ⟨l, e, hl⟩
    · exact ⟨m, e, hm⟩
    · exact ⟨_, e, hg⟩)
  unfold outF
  rw [F.goneF, ← e1, ← e2, ← e3]
  repeat' split
  all_goals
    rw [← key]
    · rfl
    · intro q hq
      simp only [List.mem_cons, List.not_mem_nil, or_false] at hq
      rcases hq with h | h | h <;> (try subst h) <;> simp_all
end
theorem zn_neg (x y : Int) : zn (-x) y = zn x y := by
  unfold zn
  rw [zone_neg]
  by_cases h : OkS x y
  · rw [if_pos h, if_pos ((okS_neg x y).2 h)]
  · rw [if_neg h, if_neg (fun h' => h ((okS_neg x y).1 h'))]
theorem mirSym : Sym mirS id where
  keep := mir_keeps
  inv s := by unfold mirS; simp
  ht _ := rfl
  hn _ := rfl
  inj _ _ := Iff.rfl
  rg _ := Iff.rfl
  hzn s := zn_neg s.x s.y
  hce s := by unfold cen mirS; simp only; rw [ab_neg]; simp only [okS_neg, play_neg]
theorem excSym : Sym excS (fun t => 1 - t) where
  keep := exc_keeps
  inv s := by unfold excS; simp only; rw [show 1 - (1 - s.t) = s.t by omega]
  ht _ := rfl
  hn _ := rfl
  inj a b := by omega
  rg a := by omega
  hzn _ := rfl
  hce _ := rfl
theorem find_perm {m m' : List St} (hd : dis m) (hp : m.Perm m') (t n : Int) : m'.find? (isB t n) = m.find? (isB t n) := by
  cases h : m.find? (isB t n) with
  | none =>
    rw [List.find?_eq_none] at h ⊢
    exact fun s hs => h s (hp.mem_iff.2 hs)
  | some s =>
    have h1 := List.mem_of_find?_eq_some h
    have h2 := List.find?_some h
    cases h' : m'.find? (isB t n) with
    | none =>
      rw [List.find?_eq_none] at h'
      exact absurd h2 (h' s (hp.mem_iff.1 h1))
    | some s' =>
      have h3 := hp.mem_iff.2 (List.mem_of_find?_eq_some h')
      have h4 := List.find?_some h'
      rw [isB_iff] at h2 h4
      rw [hd s h1 s' h3 (h2.1.trans h4.1.symm) (h2.2.trans h4.2.symm)]
theorem any_perm {α : Type} {l l' : List α} (hp : l.Perm l') (p : α → Bool) : l'.any p = l.any p := by
  rw [Bool.eq_iff_iff, List.any_eq_true, List.any_eq_true]
  exact ⟨fun ⟨x, h1, h2⟩ => ⟨x, hp.mem_iff.2 h1, h2⟩, fun ⟨x, h1, h2⟩ => ⟨x, hp.mem_iff.1 h1, h2⟩⟩
theorem all_perm {α : Type} {l l' : List α} (hp : l.Perm l') (p : α → Bool) : l'.all p = l.all p := by
  rw [Bool.eq_iff_iff, List.all_eq_true, List.all_eq_true]
  exact ⟨fun h x hx => h x (hp.mem_iff.1 hx), fun h x hx => h x (hp.mem_iff.2 hx)⟩
theorem dis_perm {m m' : List St} (hd : dis m) (hp : m.Perm m') : dis m' := fun a ha b hb => hd a (hp.mem_iff.2 ha) b (hp.mem_iff.2 hb)
theorem look_perm {m m' : List St} (hd : dis m) (hp : m.Perm m') (t n : Int) : lookT m' t n = lookT m t n := by
  rw [look_find hd, look_find (dis_perm hd hp), find_perm hd hp]
theorem lookS_perm {l l' : List St} (hp : l.Perm l') (t n : Int) : (lookT l' t n).isSome = (lookT l t n).isSome := by
  rw [lookT_some, lookT_some, any_perm hp]
theorem srt_perm' {l l' : List St} (hl : chkB l = true) (hp : l.Perm l') : srt l' = srt l := ((srt_iff hl).2 hp).symm
theorem remB_perm {c : Cd} {n t : Int} {m m' l l' : List St} (hd : dis m) (hm : m.Perm m') (hl : l.Perm l') : remB c n t m' l' = remB c n t m l := by
  unfold remB
  rw [any_perm hl]
  refine congrArg l.any (funext fun s => ?_)
  rw [look_perm hd hm]
theorem movB_perm {c : Cd} {n t : Int} {m m' l l' : List St} (hd : dis m) (hm : m.Perm m') (hl : l.Perm l') : movB c n t m' l' = movB c n t m l := by
  unfold movB
  rw [any_perm hl]
  refine congrArg l.any (funext fun s => ?_)
  rw [look_perm hd hm]
theorem thrA_perm {l l' m m' : List St} (hl : l.Perm l') (hm : m.Perm m') (x : Th) : thrA l' m' x = thrA l m x := by
  unfold thrA
  rw [chk_perm_eq hl, chk_perm_eq hm]
theorem thrB_perm {l l' m m' : List St} (hl : l.Perm l') (hm : m.Perm m') (x : Th) : thrB l' m' x = thrB l m x := by
  unfold thrB
  rw [thrA_perm hl hm]
  cases hA : thrA l m x
  · rfl
  · obtain ⟨h1, h2, -⟩ := thrA_facts hA
    rw [srt_perm' h1 hl, srt_perm' h2 hm, lookS_perm hl, all_perm hm]
    congr 3
    funext s
    rw [lookS_perm hl]
theorem outF_perm {l l' m m' : List St} (hl : chkB l = true) (hm : chkB m = true) (pl : l.Perm l') (pm : m.Perm m') (x : Th) (r : Int) : outF l' m' x r = outF l m x r := by
  unfold outF
  have e3 : srt (m'.filter (fun s => !isB x.team x.n s)) = srt (m.filter (fun s => !isB x.team x.n s)) := srt_perm' (chk_filter _ hm) (pm.filter _)
  rw [srt_perm' hl pl, srt_perm' hm pm, e3]
theorem ruleF_perm {c : Cd} {n : Int} {l l' m m' : List St} (hm : chkB m = true) (pl : l.Perm l') (pm : m.Perm m') (x : Th) : ruleF c n l' m' x = ruleF c n l m x := by
  unfold ruleF
  rw [remB_perm (chk_dis hm) pm pl, movB_perm (chk_dis hm) pm pl]
end Go.Proofs.Ytmcpnoailbmkkaa
/- Layer 7, in plain Lean: an end that is played by a list of throws; the changed throws make the changed end. -/
namespace Go.Proofs.Ytmcpnoailbmkkaa
open Go Go.RowKit Go.Proofs
/-- What changes with the teams. -/
structure SymT (f : St → St) (τ : Int → Int) : Prop where
 F : Sym f τ
 nx : ∀ fr tn : Int, 0 ≤ fr ∧ fr ≤ 1 → (τ fr + tn) % 2 = τ ((fr + tn) % 2)
/-- A valid end. -/
structure ValE (E : En) : Prop where
 chk : chkB E.l = true
 so : srt E.l = E.l
 fr : 0 ≤ E.fr ∧ E.fr ≤ 1
 outs : ∀ r, E.p = some r → ∀ q ∈ r.2.2, chkB q.1 = true ∧ srt q.1 = q.1
structure SimE (f : St → St) (τ : Int → Int) (E E' : En) : Prop where
 hc : E'.c = E.c
 htn : E'.tn = E.tn
 hfr : E'.fr = τ E.fr
 hl : E'.l = srt (E.l.map f)
 hp : (E.p = none ∧ E'.p = none) ∨ ∃ r h, E.p = some r ∧ E'.p = some (r.1, h, r.2.2.map (ocF f))
/-- The changed throw. -/
def SimX (τ : Int → Int) (x x' : Th) : Prop := x' = thT τ x ∨ (¬ (0 ≤ x.team ∧ x.team ≤ 1) ∧ ¬ (0 ≤ x'.team ∧ x'.team ≤ 1))
def SimM (f : St → St) (m m' : List St) : Prop := m' = m.map f ∨ (chkB m = false ∧ chkB m' = false)
variable {f : St → St} {τ : Int → Int}
theorem Sym.thr2 (F : Sym f τ) {l m : List St} (x : Th) : thrB (srt (l.map f)) (m.map f) (thT τ x) = thrB l m x := by
 rw [thrB_perm (srt_perm (l.map f)).symm (List.Perm.refl _), F.thrBF]
theorem sim_next (S : SymT f τ) {E E' : En} (hV : ValE E) (h : SimE f τ E E') : nextF E' = if (nextF E).2.2 = 0 then (τ (nextF E).1, (nextF E).2.1, 0) else nextF E := by
 have e : E'.p.isSome = E.p.isSome := by
  rcases h.hp with ⟨h1, h2⟩ | ⟨r, h', h1, h2⟩ <;> rw [h1, h2] <;> rfl
 by_cases hb : E.p.isSome = true ∨ E.tn = 2 * E.c.e
 ·have e0 : nextF E = (0, 0, 9) := by unfold nextF; rw [if_pos hb]
  rw [e0, if_neg (by decide)]
  unfold nextF
  rw [e, h.htn, h.hc, if_pos hb]
 ·have e0 : nextF E = ((E.fr + E.tn) % 2, E.tn / 2, 0) := by unfold nextF; rw [if_neg hb]
  rw [e0, if_pos rfl]
  unfold nextF
  rw [e, h.htn, h.hc, if_neg hb, h.hfr, S.nx _ _ hV.fr]
theorem thrB_no {l m : List St} {x : Th} (h : chkB m = false) : thrB l m x = false := by
 cases e : thrB l m x
 ·rfl
 ·rw [(thr_parts e).2.1] at h; cases h
theorem next_01 {E : En} (h : (nextF E).2.2 = 0) : 0 ≤ (nextF E).1 ∧ (nextF E).1 ≤ 1 := by
 unfold nextF at h ⊢
 split at h
 ·cases h
 ·rename_i hb
  rw [if_neg hb]
  dsimp only
  omega
theorem sim_thrE (S : SymT f τ) {E E' : En} {x x' : Th} {m m' : List St} (hV : ValE E) (h : SimE f τ E E') (hx : SimX τ x x') (hm : SimM f m m') : thrE E' m' x' = thrE E m x := by
 have hn := sim_next S hV h
 unfold thrE
 by_cases h0 : (nextF E).2.2 = 0
 ·rw [if_pos h0] at hn
  rw [hn]
  dsimp only
  rw [if_neg (show ¬ ((0 : Int) ≠ 0) from fun h => h rfl), if_neg (show ¬ ((nextF E).2.2 ≠ 0) from fun h => h h0)]
  have h01 := next_01 h0
  have hb : (x'.team = τ (nextF E).1 ∧ x'.n = (nextF E).2.1 ∧ thrB E'.l m' x' = true) ↔ (x.team = (nextF E).1 ∧ x.n = (nextF E).2.1 ∧ thrB E.l m x = true) := by
   rcases hx with rfl | ⟨g1, g2⟩
   ·rcases hm with rfl | ⟨k1, k2⟩
    ·rw [h.hl, S.F.thr2]
     show (τ x.team = _ ∧ x.n = _ ∧ _) ↔ _
     rw [S.F.inj]
    ·rw [thrB_no k1, thrB_no k2]; simp
   ·constructor
    ·intro h; exact absurd (by rw [h.1]; exact (S.F.rg _).2 h01) g2
    ·intro h; exact absurd (by rw [h.1]; exact h01) g1
  by_cases hb2 : x.team = (nextF E).1 ∧ x.n = (nextF E).2.1 ∧ thrB E.l m x = true
  ·rw [if_pos hb2, if_pos (hb.2 hb2)]
  ·rw [if_neg hb2, if_neg (fun h => hb2 (hb.1 h))]
 ·rw [if_neg h0] at hn
  rw [hn, if_pos h0, if_pos h0]
theorem rulF_T (x : Th) (rm mv sf : Bool) : rulF (thT τ x) rm mv sf = rulF x rm mv sf := rfl
theorem sim_rul (S : SymT f τ) {E E' : En} {x : Th} {m : List St} (h : SimE f τ E E') (hm : chkB m = true) : rulE E' (m.map f) (thT τ x) = rulE E m x := by
 have hm' : chkB (m.map f) = true := by rw [chk_map S.F.keep]; exact hm
 unfold rulE
 rw [h.hc, h.htn, h.hl, ruleF_perm hm' (srt_perm (E.l.map f)).symm (List.Perm.refl _)]
 unfold ruleF
 have h1 : remB E.c E.tn (thT τ x).team (m.map f) (E.l.map f) = _ := S.F.remBF E.c E.tn x.team (chk_dis hm)
 have h2 : movB E.c E.tn (thT τ x).team (m.map f) (E.l.map f) = _ := S.F.movBF E.c E.tn x.team (chk_dis hm)
 rw [h1, h2, rulF_T]
theorem sim_out (S : SymT f τ) {E E' : En} {x : Th} {m : List St} (hV : ValE E) (h : SimE f τ E E') (hm : chkB m = true) : outE E' (m.map f) (thT τ x) = (outE E m x).map (ocF f) := by
 have hm' : chkB (m.map f) = true := by rw [chk_map S.F.keep]; exact hm
 have hl' : chkB (E.l.map f) = true := by rw [chk_map S.F.keep]; exact hV.chk
 unfold outE
 rw [sim_rul S h hm, h.hl, outF_perm hl' hm' (srt_perm (E.l.map f)).symm (List.Perm.refl _), S.F.outFF _ _ hV.chk hm]
theorem ddP_mem3 {y : List St × Bool} : ∀ (L r : List (List St × Bool)), y ∈ L.foldl (fun r o => if r.any (fun p => decide (p = o)) = true then r else r ++ [o]) r → y ∈ r ∨ y ∈ L
 | [], r, h => .inl h
 | o :: L, r, h => by
  rw [List.foldl_cons] at h
  rcases ddP_mem3 L _ h with h1 | h1
  ·split at h1
   ·exact .inl h1
   ·rcases List.mem_append.1 h1 with h2 | h2
    ·exact .inl h2
    ·exact .inr (by rw [List.mem_singleton.1 h2]; exact List.mem_cons_self)
  ·exact .inr (List.mem_cons_of_mem _ h1)
theorem srt_srt {l : List St} (h : chkB l = true) : srt (srt l) = srt l := (srt_uniq (chk_bnd (chk_srt h)) (chk_dis (chk_srt h)) (List.Perm.refl _) (srt_pw l)).symm
theorem out_val {l m : List St} {x : Th} {r : Int} (hl : chkB l = true) (hm : chkB m = true) {y : List St × Bool} (h : y ∈ outF l m x r) : chkB y.1 = true ∧ srt y.1 = y.1 := by
 have key : ∀ l0 : List St, chkB l0 = true → y.1 = srt l0 → chkB y.1 = true ∧ srt y.1 = y.1 := fun l0 h0 e => by rw [e]; exact ⟨chk_srt h0, srt_srt h0⟩
 have hg : chkB (m.filter (fun s => !isB x.team x.n s)) = true := chk_filter _ hm
 unfold outF at h
 repeat' split at h
 all_goals
  have h1 := (ddP_mem3 _ _ h).resolve_left (by simp)
  simp only [List.mem_cons, List.not_mem_nil, or_false] at h1
  rcases h1 with h1 | h1 | h1 <;> (try subst h1) <;> first | exact key l hl rfl | exact key m hm rfl | exact key _ hg rfl | (subst h1; first | exact key l hl rfl | exact key m hm rfl)
theorem sim_took {E E' : En} (hV : ValE E) (h : SimE f τ E E') {q : List St × Bool} (hq : chkB q.1 = true ∧ srt q.1 = q.1) : SimE f τ (tookE E q) (tookE E' (ocF f q)) ∧ ValE (tookE E q) := by
 refine ⟨⟨h.hc, ?_, h.hfr, rfl, .inl ⟨rfl, rfl⟩⟩, hq.1, hq.2, hV.fr, fun r hr => (by cases hr)⟩
 unfold tookE ocF
 dsimp only
 rw [h.htn]
theorem sim_thr (S : SymT f τ) {E E' : En} {x x' : Th} {m m' : List St} (hV : ValE E) (h : SimE f τ E E') (hx : SimX τ x x') (hm : SimM f m m') (h0 : thrE E m x = 0) : SimE f τ (thrN E m x) (thrN E' m' x') ∧ ValE (thrN E m x) := by
 obtain ⟨z0, z1, z2, z3⟩ := thr_0 h0
 obtain ⟨t1, t2, t3, t4, t5⟩ := thr_parts z3
 obtain rfl : x' = thT τ x := hx.resolve_right (fun h => h.1 t3)
 obtain rfl : m' = m.map f := hm.resolve_right (fun h => by rw [t2] at h; cases h.1)
 have ho := sim_out S (x := x) hV h t2
 have hq : ∀ q ∈ outE E m x, chkB q.1 = true ∧ srt q.1 = q.1 := fun q hq => out_val t1 t2 hq
 by_cases hl : (outE E m x).length = 1
 ·obtain ⟨q, e⟩ := List.length_eq_one_iff.1 hl
  have e' : outE E' (m.map f) (thT τ x) = [ocF f q] := by rw [ho, e]; rfl
  rw [thr_one e, thr_one e']
  exact sim_took hV h (hq q (by rw [e]; exact List.mem_cons_self))
 ·have hl' : (outE E' (m.map f) (thT τ x)).length ≠ 1 := by rw [ho, List.length_map]; exact hl
  rw [thr_many hl, thr_many hl']
  refine ⟨⟨h.hc, h.htn, h.hfr, h.hl, .inr ⟨_, choF (thT τ x) (rulE E' (m.map f) (thT τ x)), rfl, ?_⟩⟩, hV.chk, hV.so, hV.fr, fun r hr => ?_⟩
  ·rw [ho, sim_rul S h t2]
  ·cases hr; exact hq
theorem sim_chsE {E E' : En} (h : SimE f τ E E') (i : Int) : chsE E' i = chsE E i := by
 rcases h.hp with ⟨h1, h2⟩ | ⟨r, h', h1, h2⟩
 ·unfold chsE; rw [h1, h2]
 ·unfold chsE; rw [h1, h2]; dsimp only; rw [List.length_map]
theorem sim_chs {E E' : En} (hV : ValE E) (h : SimE f τ E E') {i : Int} (h0 : chsE E i = 0) : SimE f τ (chsN E i) (chsN E' i) ∧ ValE (chsN E i) := by
 rcases h.hp with ⟨h1, h2⟩ | ⟨r, h', h1, h2⟩
 ·unfold chsE at h0; rw [h1] at h0; cases h0
 ·have hi : i.toNat < r.2.2.length := by
   unfold chsE at h0
   rw [h1] at h0
   dsimp only at h0
   split at h0
   ·omega
   ·cases h0
  have hm := List.getElem_mem hi
  have e1 : chsN E i = tookE E (r.2.2[i.toNat]'hi) := by
   unfold chsN; rw [h1]; dsimp only
   rw [List.getD_eq_getElem?_getD, List.getElem?_eq_getElem hi]; rfl
  have e2 : chsN E' i = tookE E' (ocF f (r.2.2[i.toNat]'hi)) := by
   unfold chsN; rw [h2]; dsimp only
   rw [List.getD_eq_getElem?_getD, List.getElem?_map, List.getElem?_eq_getElem hi]; rfl
  rw [e1, e2]
  exact sim_took hV h (hV.outs r h1 _ hm)
/-! ### An end that is played -/
/-- What is thrown; the choices that are left. -/
def runE : En → List (Th × List St) → List Int → Int × En × List Int
 | E, [], cs => (0, E, cs)
 | E, y :: r, cs =>
  if thrE E y.2 y.1 ≠ 0 then (thrE E y.2 y.1, E, cs) else
  if (thrN E y.2 y.1).p = none then runE (thrN E y.2 y.1) r cs else
  if chsE (thrN E y.2 y.1) (cs.headD 0) ≠ 0 then (chsE (thrN E y.2 y.1) (cs.headD 0), thrN E y.2 y.1, cs.tail) else runE (chsN (thrN E y.2 y.1) (cs.headD 0)) r cs.tail
def SimY (f : St → St) (τ : Int → Int) (y y' : Th × List St) : Prop := SimX τ y.1 y'.1 ∧ SimM f y.2 y'.2
theorem sim_run (S : SymT f τ) : ∀ (ys ys' : List (Th × List St)), ys.length = ys'.length → (∀ j (h : j < ys.length) (hk : j < ys'.length), SimY f τ (ys[j]'h) (ys'[j]'hk)) → ∀ (E E' : En) (cs : List Int), ValE E → SimE f τ E E' →
  (runE E' ys' cs).1 = (runE E ys cs).1 ∧ ((runE E ys cs).1 = 0 → SimE f τ (runE E ys cs).2.1 (runE E' ys' cs).2.1 ∧ ValE (runE E ys cs).2.1)
 | [], [], _, _, _, _, _, hV, h => ⟨rfl, fun _ => ⟨h, hV⟩⟩
 | [], y' :: ys', hl, _, _, _, _, _, _ => by cases hl
 | y :: ys, [], hl, _, _, _, _, _, _ => by cases hl
 | y :: ys, y' :: ys', hl, hy, E, E', cs, hV, h => by
  obtain ⟨hx, hm⟩ : SimY f τ y y' := hy 0 (by simp) (by simp)
  have hr : ∀ j (h : j < ys.length) (hk : j < ys'.length), SimY f τ (ys[j]'h) (ys'[j]'hk) := fun j h h' => hy (j + 1) (by simp; omega) (by simp; omega)
  have ih := sim_run S ys ys' (by simpa using hl) hr
  have e1 := sim_thrE S hV h hx hm
  unfold runE
  rw [e1]
  by_cases h0 : thrE E y.2 y.1 = 0
  ·have n0 : ¬ (thrE E y.2 y.1 ≠ 0) := fun h => h h0
   rw [if_neg n0, if_neg n0]
   obtain ⟨hS, hV2⟩ := sim_thr S hV h hx hm h0
   have ep : (thrN E' y'.2 y'.1).p = none ↔ (thrN E y.2 y.1).p = none := by
    rcases hS.hp with ⟨h1, h2⟩ | ⟨r, h', h1, h2⟩ <;> rw [h1, h2] <;> simp
   by_cases hp : (thrN E y.2 y.1).p = none
   ·rw [if_pos (ep.2 hp), if_pos hp]
    exact ih _ _ cs hV2 hS
   ·have np : ¬ (thrN E' y'.2 y'.1).p = none := fun h => hp (ep.1 h)
    rw [if_neg np, if_neg hp, sim_chsE hS]
    by_cases hc : chsE (thrN E y.2 y.1) (cs.headD 0) = 0
    ·have n1 : ¬ (chsE (thrN E y.2 y.1) (cs.headD 0) ≠ 0) := fun h => h hc
     rw [if_neg n1, if_neg n1]
     obtain ⟨hS3, hV3⟩ := sim_chs hV2 hS hc
     exact ih _ _ cs.tail hV3 hS3
    ·rw [if_pos hc, if_pos hc]
     exact ⟨rfl, fun h => absurd h hc⟩
  ·rw [if_pos h0, if_pos h0]
   exact ⟨rfl, fun h => absurd h h0⟩
end Go.Proofs.Ytmcpnoailbmkkaa
/- Layer 2, in plain Lean: the count of changed stones, in another order. -/
namespace Go.Proofs.Ytmcpnoailbmkkaa
open Go Go.RowKit Go.Proofs
def BT (l : List St) (t : Int) (o : Option Int) : Prop := (o = none ∧ ∀ s ∈ l, InH s.x s.y → s.t ≠ t) ∨ ∃ m, o = some m ∧ (∃ s ∈ l, InH s.x s.y ∧ s.t = t ∧ sqd s.x s.y = m) ∧ ∀ s ∈ l, InH s.x s.y → s.t = t → m ≤ sqd s.x s.y
theorem bT_BT (l : List St) (t : Int) : BT l t (bT l t l.length) := by
 rcases bT_spec l t l.length with ⟨h1, h2⟩ | ⟨m, h1, ⟨i, hi, h2, h3, h4⟩, h5⟩
 ·refine .inl ⟨h1, fun s hs hin => ?_⟩
  obtain ⟨i, hi, rfl⟩ := List.getElem_of_mem hs
  have := h2 i hi ((hsA_iff hi rfl).2 hin)
  rw [teamAt_get hi rfl] at this
  exact this
 ·refine .inr ⟨m, h1, ⟨l[i]'hi, List.getElem_mem _, (hsA_iff hi rfl).1 h2, by rw [← teamAt_get hi rfl]; exact h3, by rw [← sqAt_get hi rfl]; exact h4⟩, fun s hs hin ht => ?_⟩
  obtain ⟨j, hj, rfl⟩ := List.getElem_of_mem hs
  have := h5 j hj ((hsA_iff hj rfl).2 hin) (by rw [teamAt_get hj rfl]; exact ht)
  rw [sqAt_get hj rfl] at this
  exact this
theorem BT_uniq {l : List St} {t : Int} {o o' : Option Int} (h : BT l t o) (h' : BT l t o') : o = o' := by
 rcases h with ⟨h1, h2⟩ | ⟨m, h1, ⟨s, hs, a1, a2, a3⟩, h5⟩ <;> rcases h' with ⟨h1', h2'⟩ | ⟨m', h1', ⟨s', hs', b1, b2, b3⟩, h5'⟩
 ·rw [h1, h1']
 ·exact absurd b2 (h2 s' hs' b1)
 ·exact absurd a2 (h2' s hs a1)
 ·have e1 := h5 s' hs' b1 b2
  have e2 := h5' s hs a1 a2
  rw [h1, h1', show m = m' by omega]
/-- What the count asks of a change. -/
structure SymC (f : St → St) (τ : Int → Int) : Prop where
 ht : ∀ s, (f s).t = τ s.t
 inj : ∀ a b, τ a = τ b ↔ a = b
 hin : ∀ s, InH (f s).x (f s).y ↔ InH s.x s.y
 hsq : ∀ s, sqd (f s).x (f s).y = sqd s.x s.y
section
variable {f : St → St} {τ : Int → Int}
theorem BT_map (C : SymC f τ) {l l' : List St} (hp : l'.Perm (l.map f)) {t : Int} {o : Option Int} (h : BT l t o) : BT l' (τ t) o := by
 rcases h with ⟨h1, h2⟩ | ⟨m, h1, ⟨s, hs, a1, a2, a3⟩, h5⟩
 ·refine .inl ⟨h1, fun s hs hin => ?_⟩
  obtain ⟨x, hx, rfl⟩ := List.mem_map.1 (hp.mem_iff.1 hs)
  rw [C.ht, ne_eq, C.inj]
  exact h2 x hx ((C.hin x).1 hin)
 ·refine .inr ⟨m, h1, ⟨f s, hp.mem_iff.2 (List.mem_map_of_mem hs), (C.hin s).2 a1, by rw [C.ht, a2], by rw [C.hsq]; exact a3⟩, fun s hs hin ht => ?_⟩
  obtain ⟨x, hx, rfl⟩ := List.mem_map.1 (hp.mem_iff.1 hs)
  rw [C.hsq]
  exact h5 x hx ((C.hin x).1 hin) (by rw [C.ht, C.inj] at ht; exact ht)
theorem bT_map (C : SymC f τ) {l l' : List St} (hp : l'.Perm (l.map f)) (t : Int) : bT l' (τ t) l'.length = bT l t l.length := BT_uniq (bT_BT l' (τ t)) (BT_map C hp (bT_BT l t))
def pC (t : Int) (lim : Option Int) (s : St) : Bool := decide ((s.t = t ∧ InH s.x s.y) ∧ (lim = none ∨ sqd s.x s.y < lim.getD 0))
theorem cK_count (l : List St) (t : Int) (lim : Option Int) : cK l t lim l.length = l.countP (pC t lim) := by
 have H : ∀ k, k ≤ l.length → cK l t lim k = (l.take k).countP (pC t lim) := by
  intro k
  induction k with
  | zero => intro _; rfl
  | succ k ih =>
   intro hk
   have hlt : k < l.length := by omega
   unfold cK
   rw [ih (by omega), List.take_succ_eq_append_getElem hlt, List.countP_append, List.countP_singleton, teamAt_get hlt rfl, sqAt_get hlt rfl]
   congr 1
   unfold pC
   have e : k ∈ hsA l ↔ InH (l[k]'hlt).x (l[k]'hlt).y := hsA_iff hlt rfl
   by_cases hc : ((l[k]'hlt).t = t ∧ InH (l[k]'hlt).x (l[k]'hlt).y) ∧ (lim = none ∨ sqd (l[k]'hlt).x (l[k]'hlt).y < lim.getD 0)
   ·rw [if_pos ⟨⟨hc.1.1, e.2 hc.1.2⟩, hc.2⟩, decide_eq_true hc]; rfl
   ·rw [if_neg (fun h => hc ⟨⟨h.1.1, e.1 h.1.2⟩, h.2⟩), decide_eq_false hc]; rfl
 have := H l.length (Nat.le_refl _)
 rwa [List.take_length] at this
theorem cK_map (C : SymC f τ) {l l' : List St} (hp : l'.Perm (l.map f)) (t : Int) (lim : Option Int) : cK l' (τ t) lim l'.length = cK l t lim l.length := by
 rw [cK_count, cK_count, hp.countP_eq, List.countP_map]
 refine congrArg (fun p => l.countP p) (funext fun s => ?_)
 simp only [Function.comp, pC]
 rw [C.ht, C.hsq, Bool.eq_iff_iff, decide_eq_true_eq, decide_eq_true_eq, C.inj, C.hin]
end
theorem mirC : SymC mirS id where
 ht _ := rfl
 inj _ _ := Iff.rfl
 hin s := by unfold InH mirS; simp only [play_neg, sqd_negx]
 hsq s := sqd_negx s.x s.y
theorem excC : SymC excS (fun t => 1 - t) where
 ht _ := rfl
 inj a b := by omega
 hin _ := Iff.rfl
 hsq _ := rfl
theorem cnt_mir {l l' : List St} (hp : l'.Perm (l.map mirS)) : cntF l' = cntF l := by
 have hc : chkB l' = chkB l := by rw [chk_perm_eq hp, chk_map mir_keeps]
 have h0 := bT_map mirC hp 0
 have h1 := bT_map mirC hp 1
 have k0 := cK_map mirC hp 0
 have k1 := cK_map mirC hp 1
 simp only [id] at h0 h1 k0 k1
 unfold cntF refT refP
 rw [hc, h0, h1]
 simp only [k0, k1]
def excT (t : Int) : Int := if 0 ≤ t then 1 - t else t
theorem cnt_exc {l l' : List St} (hp : l'.Perm (l.map excS)) : cntF l' = (if chkB l = true then excT (cntF l).1 else 0, (cntF l).2.1, (cntF l).2.2) := by
 have hc : chkB l' = chkB l := by rw [chk_perm_eq hp, chk_map exc_keeps]
 have h0 := bT_map excC hp 1
 have h1 := bT_map excC hp 0
 have k0 := cK_map excC hp 1
 have k1 := cK_map excC hp 0
 simp only [Int.sub_self, Int.sub_zero] at h0 h1 k0 k1
 unfold cntF
 rw [hc]
 by_cases e : chkB l = true
 ·rw [if_pos e, if_pos e, if_pos e]
  unfold refT refP
  rw [h0, h1]
  cases bT l 0 l.length <;> cases bT l 1 l.length <;> simp only [k0, k1]
  ·rfl
  ·rfl
  ·rfl
  ·rename_i a b
   by_cases hab : a = b
   ·subst hab; simp only [if_true]; rfl
   ·rw [if_neg (fun h => hab h.symm), if_neg hab]
    by_cases hl : a < b
    ·rw [if_pos hl, if_neg (by omega)]; rfl
    ·rw [if_neg hl, if_pos (by omega)]; rfl
 ·rw [if_neg e, if_neg e, if_neg e]
end Go.Proofs.Ytmcpnoailbmkkaa
/- In plain Lean: an end of changed throws has the changed position, and the line that goes with it. -/
namespace Go.Proofs.Ytmcpnoailbmkkaa
open Go Go.RowKit Go.Proofs
/-- Changes as the program makes them, on any integers. -/
def wrI (x : Int) : Int := IntKind.i64.wrap x
theorem wrI_in {x : Int} (h : -9223372036854775808 ≤ x ∧ x ≤ 9223372036854775807) : wrI x = x := wrap64 h
theorem wrI_mod (x : Int) : ∃ k : Int, wrI x = x + k * 18446744073709551616 ∧ -9223372036854775808 ≤ wrI x ∧ wrI x ≤ 9223372036854775807 := by
 unfold wrI IntKind.wrap
 simp only [IntKind.signed, IntKind.bits]
 refine ⟨-((x + 9223372036854775808) / 18446744073709551616), ?_, ?_, ?_⟩ <;> simp <;> omega
def mirW (s : St) : St := ⟨s.t, s.n, wrI (-s.x), s.y⟩
def excW (s : St) : St := ⟨wrI (1 - s.t), s.n, s.x, s.y⟩
def excX (x : Th) : Th := ⟨wrI (1 - x.team), x.n, x.late, x.short, x.how⟩
/-- What is read is an integer of the program. -/
def I64 (x : Int) : Prop := -9223372036854775808 ≤ x ∧ x ≤ 9223372036854775807
def StW (s : St) : Prop := I64 s.t ∧ I64 s.x
theorem mir_same {s : St} (h : okSt s) : mirW s = mirS s := by
 unfold okSt OkS at h
 unfold mirW mirS
 rw [wrI_in (by omega)]
theorem exc_same {s : St} (h : okSt s) : excW s = excS s := by
 unfold okSt at h
 unfold excW excS
 rw [wrI_in (by omega)]
theorem mir_ok {s : St} (hw : StW s) (h : okSt (mirW s)) : okSt s := by
 obtain ⟨k, h1, h2⟩ := wrI_mod (-s.x)
 have hs := hw.2
 unfold I64 at hs
 have hx : wrI (-s.x) = -s.x := by
  unfold okSt OkS mirW at h
  dsimp only at h
  omega
 have e : mirW s = mirS s := by unfold mirW mirS; rw [hx]
 rw [e] at h
 exact (mir_keeps.ok s).1 h
theorem exc_ok {s : St} (hw : StW s) (h : okSt (excW s)) : okSt s := by
 obtain ⟨k, h1, h2⟩ := wrI_mod (1 - s.t)
 have hs := hw.1
 unfold I64 at hs
 have hx : wrI (1 - s.t) = 1 - s.t := by
  unfold okSt excW at h
  dsimp only at h
  omega
 have e : excW s = excS s := by unfold excW excS; rw [hx]
 rw [e] at h
 exact (exc_keeps.ok s).1 h
theorem sim_W {f g : St → St} (hf : Keeps f) (hs : ∀ s, okSt s → g s = f s) (ho : ∀ s, StW s → okSt (g s) → okSt s) {m : List St} (hw : ∀ s ∈ m, StW s) : SimM f m (m.map g) := by
 cases e : chkB m with
 | true =>
  have h := (chk_iff m).1 e
  exact .inl (List.map_congr_left (fun s hs2 => hs s (h.2.1 s hs2)))
 | false =>
  refine .inr ⟨e, ?_⟩
  cases e2 : chkB (m.map g) with
  | false => rfl
  | true =>
   have h := (chk_iff _).1 e2
   have hok : ∀ s ∈ m, okSt s := fun s hs2 => ho s (hw s hs2) (h.2.1 _ (List.mem_map_of_mem hs2))
   have : m.map g = m.map f := List.map_congr_left (fun s hs2 => hs s (hok s hs2))
   rw [this, chk_map hf, e] at e2
   cases e2
theorem exc_X {x : Th} (hw : I64 x.team) : SimX (fun t => 1 - t) x (excX x) := by
 unfold I64 at hw
 by_cases h : 0 ≤ x.team ∧ x.team ≤ 1
 ·left
  unfold excX thT
  rw [wrI_in (by omega)]
 ·right
  refine ⟨h, fun h2 => h ?_⟩
  obtain ⟨k, h1, h3⟩ := wrI_mod (1 - x.team)
  have h4 : 0 ≤ wrI (1 - x.team) ∧ wrI (1 - x.team) ≤ 1 := h2
  omega
theorem mirT : SymT mirS id := ⟨mirSym, fun _ _ _ => rfl⟩
theorem excTT : SymT excS (fun t => 1 - t) := ⟨excSym, fun fr tn h => by omega⟩
/-- An end that is played: why not, the end. -/
def endE (c : Cd) (first power : Int) (ys : List (Th × List St)) (cs : List Int) : Int :=
 if 100 < ys.length then 3 else if goodR c first power ≠ 0 then goodR c first power else
 if (runE (newE c first power) ys cs).1 ≠ 0 then (runE (newE c first power) ys cs).1 else (scoF (runE (newE c first power) ys cs).2.1).2.2
def endS (c : Cd) (first power : Int) (ys : List (Th × List St)) (cs : List Int) : En := (runE (newE c first power) ys cs).2.1
theorem new_chk (first power : Int) (hf : 0 ≤ first ∧ first ≤ 1) (hp : -1 ≤ power ∧ power ≤ 1) : chkB [(⟨first, 7, power * 72089600, -229376000⟩ : St), ⟨1 - first, 7, power * 72089600, 39976960⟩] = true := by
 have h1 : first = 0 ∨ first = 1 := by omega
 have h2 : power = -1 ∨ power = 0 ∨ power = 1 := by omega
 rcases h1 with rfl | rfl <;> rcases h2 with rfl | rfl | rfl <;> decide +kernel
theorem good_parts {c : Cd} {first power : Int} (h : goodR c first power = 0) : (0 ≤ first ∧ first ≤ 1) ∧ (-1 ≤ power ∧ power ≤ 1) := by
 unfold goodR at h
 split at h
 ·rename_i h1
  split at h
  ·rename_i h2; exact ⟨h1.2, h2.1⟩
  ·cases h
 ·cases h
theorem new_val {c : Cd} {first power : Int} (h : goodR c first power = 0) : ValE (newE c first power) := by
 obtain ⟨hf, hp⟩ := good_parts h
 refine ⟨?_, ?_, hf, fun r hr => (by cases hr)⟩
 ·unfold newE; dsimp only; split
  ·exact chk_srt (new_chk _ _ hf hp)
  ·decide +kernel
 ·unfold newE; dsimp only; split
  ·exact srt_srt (new_chk _ _ hf hp)
  ·exact List.Perm.eq_nil (srt_perm [])
theorem new_mir {c : Cd} {first power : Int} (h : goodR c first power = 0) : SimE mirS id (newE c first power) (newE c first (-power)) := by
 obtain ⟨hf, hp⟩ := good_parts h
 refine ⟨rfl, rfl, rfl, ?_, .inl ⟨rfl, rfl⟩⟩
 unfold newE; dsimp only; split
 ·rw [mirSym.srtF (new_chk _ _ hf hp)]
  simp [mirS, Int.neg_mul]
 ·exact (List.Perm.eq_nil (srt_perm [])).symm
theorem new_exc {c : Cd} {first power : Int} (h : goodR c first power = 0) : SimE excS (fun t => 1 - t) (newE c first power) (newE c (1 - first) power) := by
 obtain ⟨hf, hp⟩ := good_parts h
 refine ⟨rfl, rfl, rfl, ?_, .inl ⟨rfl, rfl⟩⟩
 unfold newE; dsimp only; split
 ·rw [excSym.srtF (new_chk _ _ hf hp)]
  simp [excS]
 ·exact (List.Perm.eq_nil (srt_perm [])).symm
theorem good_mir (c : Cd) (first power : Int) : goodR c first (-power) = goodR c first power := by
 unfold goodR
 have h1 : (-1 ≤ -power ∧ -power ≤ 1) ↔ (-1 ≤ power ∧ power ≤ 1) := by omega
 have h2 : (-power = 0) ↔ power = 0 := by omega
 simp only [h1, h2]
theorem good_exc (c : Cd) (first power : Int) : goodR c (1 - first) power = goodR c first power := by
 unfold goodR
 have h1 : (0 ≤ 1 - first ∧ 1 - first ≤ 1) ↔ (0 ≤ first ∧ first ≤ 1) := by omega
 simp only [h1]
theorem sco_tn {f : St → St} {τ : Int → Int} {E E' : En} (h : SimE f τ E E') : E'.tn = 2 * E'.c.e ↔ E.tn = 2 * E.c.e := by rw [h.htn, h.hc]
/-- The mirrored throws. -/
theorem end_mir (c : Cd) (first power : Int) (ys : List (Th × List St)) (cs : List Int) (hw : ∀ y ∈ ys, ∀ s ∈ y.2, StW s) :
  endE c first (-power) (ys.map fun y => (y.1, y.2.map mirW)) cs = endE c first power ys cs ∧
  (endE c first power ys cs = 0 → (scoF (endS c first (-power) (ys.map fun y => (y.1, y.2.map mirW)) cs)) = scoF (endS c first power ys cs) ∧ (endS c first (-power) (ys.map fun y => (y.1, y.2.map mirW)) cs).l = (endS c first power ys cs).l.map mirS ∧ chkB (endS c first power ys cs).l = true) := by
 unfold endE endS
 rw [List.length_map, good_mir]
 by_cases h1 : 100 < ys.length
 ·rw [if_pos h1, if_pos h1]; exact ⟨rfl, fun h => by cases h⟩
 ·rw [if_neg h1, if_neg h1]
  by_cases h2 : goodR c first power = 0
  ·have n2 : ¬ (goodR c first power ≠ 0) := fun h => h h2
   rw [if_neg n2, if_neg n2]
   obtain ⟨r1, r2⟩ := sim_run mirT ys (ys.map fun y => (y.1, y.2.map mirW)) (by rw [List.length_map]) (fun j h h' => by
    rw [List.getElem_map]
    exact ⟨.inl rfl, sim_W mir_keeps (fun s hs => mir_same hs) (fun s hs => mir_ok hs) (hw _ (List.getElem_mem h))⟩) _ _ cs (new_val h2) (new_mir h2)
   rw [r1]
   by_cases h3 : (runE (newE c first power) ys cs).1 = 0
   ·have n3 : ¬ ((runE (newE c first power) ys cs).1 ≠ 0) := fun h => h h3
    rw [if_neg n3, if_neg n3]
    obtain ⟨hS, hV⟩ := r2 h3
    have hp : ((runE (newE c first (-power)) (ys.map fun y => (y.1, y.2.map mirW)) cs).2.1).l.Perm (((runE (newE c first power) ys cs).2.1).l.map mirS) := by rw [hS.hl]; exact srt_perm _
    have hs : scoF (runE (newE c first (-power)) (ys.map fun y => (y.1, y.2.map mirW)) cs).2.1 = scoF (runE (newE c first power) ys cs).2.1 := by
     unfold scoF
     rw [cnt_mir hp]
     simp only [sco_tn hS]
    refine ⟨by rw [hs], fun _ => ⟨hs, ?_, hV.chk⟩⟩
    rw [hS.hl]
    have hc : chkB (((runE (newE c first power) ys cs).2.1).l.map mirS) = true := by rw [chk_map mir_keeps]; exact hV.chk
    refine (srt_uniq (chk_bnd hc) (chk_dis hc) (List.Perm.refl _) ?_).symm
    rw [List.pairwise_map]
    have := srt_pw ((runE (newE c first power) ys cs).2.1).l
    rw [hV.so] at this
    exact this
   ·rw [if_pos h3, if_pos h3]; exact ⟨rfl, fun h => absurd h h3⟩
  ·rw [if_pos h2, if_pos h2]; exact ⟨rfl, fun h => absurd h h2⟩
/-- The throws with the teams exchanged. -/
theorem end_exc (c : Cd) (first power : Int) (ys : List (Th × List St)) (cs : List Int) (hx : ∀ y ∈ ys, I64 y.1.team) (hw : ∀ y ∈ ys, ∀ s ∈ y.2, StW s) :
  endE c (1 - first) power (ys.map fun y => (excX y.1, y.2.map excW)) cs = endE c first power ys cs ∧
  (endE c first power ys cs = 0 → (scoF (endS c (1 - first) power (ys.map fun y => (excX y.1, y.2.map excW)) cs)) = (excT (scoF (endS c first power ys cs)).1, (scoF (endS c first power ys cs)).2.1, 0)) := by
 unfold endE endS
 rw [List.length_map, good_exc]
 by_cases h1 : 100 < ys.length
 ·rw [if_pos h1, if_pos h1]; exact ⟨rfl, fun h => by cases h⟩
 ·rw [if_neg h1, if_neg h1]
  by_cases h2 : goodR c first power = 0
  ·have n2 : ¬ (goodR c first power ≠ 0) := fun h => h h2
   rw [if_neg n2, if_neg n2]
   obtain ⟨r1, r2⟩ := sim_run excTT ys (ys.map fun y => (excX y.1, y.2.map excW)) (by rw [List.length_map]) (fun j h h' => by
    rw [List.getElem_map]
    exact ⟨exc_X (hx _ (List.getElem_mem h)), sim_W exc_keeps (fun s hs => exc_same hs) (fun s hs => exc_ok hs) (hw _ (List.getElem_mem h))⟩) _ _ cs (new_val h2) (new_exc h2)
   rw [r1]
   by_cases h3 : (runE (newE c first power) ys cs).1 = 0
   ·have n3 : ¬ ((runE (newE c first power) ys cs).1 ≠ 0) := fun h => h h3
    rw [if_neg n3, if_neg n3]
    obtain ⟨hS, hV⟩ := r2 h3
    have hp : ((runE (newE c (1 - first) power) (ys.map fun y => (excX y.1, y.2.map excW)) cs).2.1).l.Perm (((runE (newE c first power) ys cs).2.1).l.map excS) := by rw [hS.hl]; exact srt_perm _
    have hs : scoF (runE (newE c (1 - first) power) (ys.map fun y => (excX y.1, y.2.map excW)) cs).2.1 = if (runE (newE c first power) ys cs).2.1.tn = 2 * (runE (newE c first power) ys cs).2.1.c.e then (excT (cntF (runE (newE c first power) ys cs).2.1.l).1, (cntF (runE (newE c first power) ys cs).2.1.l).2.1, (cntF (runE (newE c first power) ys cs).2.1.l).2.2) else (0, 0, 9) := by
     unfold scoF
     rw [cnt_exc hp, hV.chk, if_pos rfl]
     simp only [sco_tn hS]
    rw [hs]
    unfold scoF
    by_cases h4 : (runE (newE c first power) ys cs).2.1.tn = 2 * (runE (newE c first power) ys cs).2.1.c.e
    ·rw [if_pos h4, if_pos h4]
     refine ⟨rfl, fun h => ?_⟩
     rw [h]
    ·rw [if_neg h4, if_neg h4]
     exact ⟨rfl, fun h => by cases h⟩
   ·rw [if_pos h3, if_pos h3]; exact ⟨rfl, fun h => absurd h h3⟩
  ·rw [if_pos h2, if_pos h2]; exact ⟨rfl, fun h => absurd h h2⟩
end Go.Proofs.Ytmcpnoailbmkkaa
/- Across layers: throws, far, next, Mirror, lines compared. -/
namespace Go.Proofs.Ytmcpnoailbmkkaa
open Go Go.RowKit Go.Proofs
attribute [local irreducible] J JQ JL JA JD

/-- A throw with its stones. -/
structure Tw where
 x : Th
 d : Dv St
def eTw (p : Tw) : List Value := [.int .i64 p.x.team, .int .i64 p.x.n, .bool p.x.late, .bool p.x.short, .int .i64 p.x.how, p.d.v]
theorem ETw : Enc 6 eTw := ⟨fun _ => rfl, fun x v h => by simp [eTw, Dv.v] at h; rcases h with rfl | rfl | rfl | rfl | rfl | rfl <;> rfl⟩
def TwW (w : World) (p : Tw) : Prop := Arr 4 eT w p.d.v p.d.l ∧ p.d.n = p.d.l.length
theorem TwW.up {w w' : World} {p : Tw} (h : TwW w p) (hb : Below w.heap.size w w') : TwW w' p := ⟨h.1.up ET hb, h.2⟩
def twP (p : Tw) : Th × List St := (p.x, p.d.l)
def farT (l : List Tw) : Bool := decide (110 < l.length) || l.any (fun p => decide (20 < p.d.n))
theorem far_no {l : List Tw} (h : farT l = false) : l.length ≤ 110 ∧ ∀ p ∈ l, p.d.n ≤ 20 := by
 unfold farT at h
 rw [Bool.or_eq_false_iff, List.any_eq_false] at h
 exact ⟨by have := of_decide_eq_false h.1; omega, fun p hp => by have := h.2 p hp; simp at this; exact this⟩
theorem far_y1 {l : List Tw} (h : 110 < l.length) : farT l = true := by unfold farT; rw [decide_eq_true h]; rfl
theorem far_y2 {l : List Tw} {k : Nat} {x : Tw} (hk : k < l.length) (hx : l[k]'hk = x) (h : 20 < x.d.n) : farT l = true := by
 unfold farT
 rw [Bool.or_eq_true, List.any_eq_true]
 exact .inr ⟨x, by rw [← hx]; exact List.getElem_mem _, decide_eq_true h⟩
theorem far_n {l : List Tw} (h1 : ¬ 110 < l.length) (h2 : ∀ j (hj : j < l.length), (l[j]'hj).d.n ≤ 20) : farT l = false := by
 unfold farT
 rw [Bool.or_eq_false_iff, List.any_eq_false]
 refine ⟨decide_eq_false h1, fun x hx => ?_⟩
 obtain ⟨j, hj, rfl⟩ := List.getElem_of_mem hx
 have := h2 j hj
 simp; omega
/-- A line: the team, its points, the power play. -/
abbrev Lnv (a b : Int) (p : Bool) : Value := .agg #[.int .i64 a, .int .i64 b, .bool p]
def eqLn (a b : Int) (p : Bool) (a' b' : Int) (p' : Bool) : Bool := a == a' && (b == b' && p == p')
theorem foL : Try.prog.underlying 31 = some (.struct (Try.prog.fieldsOf 31)) := by kernel_rfl
theorem fnL : (Try.prog.fieldsOf 31).toList.map (fun f => (f.name != "_", f.type, f.offset)) = [(true, 3, 0), (true, 3, 1), (true, 4, 2)] := by kernel_rfl
theorem paL (x y z : Value) (w : World) : (part 3 #[x, y, z] 0).run Try.prog w = .ok x w ∧ (part 3 #[x, y, z] 1).run Try.prog w = .ok y w ∧ (part 4 #[x, y, z] 2).run Try.prog w = .ok z w := ⟨by kernel_rfl, by kernel_rfl, by kernel_rfl⟩
theorem ein4 (d : Nat) (a b : Bool) (w : World) : (Op.equalIn (d + 1) 4 (.bool a) (.bool b)).run Try.prog w = .ok (a == b) w := run_equalIn_bool w d 4 a b Try.underlying4
theorem einL (d : Nat) (a b : Int) (p : Bool) (a' b' : Int) (p' : Bool) (w : World) : (Op.equalIn (d + 2) 31 (Lnv a b p) (Lnv a' b' p')).run Try.prog w = .ok (eqLn a b p a' b' p') w := by
 unfold eqLn
 rw [run_equalIn_struct w (d + 1) 31 _ _ foL (by kernel_rfl), eqF_of, fnL]
 cases h1 : a == a' <;> cases h2 : b == b' <;> cases h3 : p == p' <;>
  simp [eqF, Sem.run_bind, (paL _ _ _ _).1, (paL _ _ _ _).2.1, (paL _ _ _ _).2.2, ein3, ein4, h1, h2, h3, Result.andThen_ok, Sem.run_pure]
theorem neqL (a b : Int) (p : Bool) (a' b' : Int) (p' : Bool) (w : World) : (binOp .neq 31 (Lnv a b p) (Lnv a' b' p')).run Try.prog w = .ok (.bool (!eqLn a b p a' b' p')) w := by
 have h := einL 9998 a b p a' b' p' w
 rw [run_neq_struct, h]
 rfl
theorem eqlL (a b : Int) (p : Bool) (a' b' : Int) (p' : Bool) (w : World) : (binOp .eql 31 (Lnv a b p) (Lnv a' b' p')).run Try.prog w = .ok (.bool (eqLn a b p a' b' p')) w := by
 have h := einL 9998 a b p a' b' p' w
 rw [run_eql_struct, h]
 rfl
theorem eqLn_refl (a b : Int) (p : Bool) : eqLn a b p a b p = true := by simp [eqLn]
section
variable {n : Nat} {l : Sl} {o : Oper} {x y : Operand} {ty : TypeId}
theorem pNeqLn {a b : Int} {p : Bool} {a' b' : Int} {p' : Bool} (ho : o.op = .binOp .neq 31 x y ty) (hx : evl l x = some (Lnv a b p)) (hy : evl l y = some (Lnv a' b' p')) : RP Try.prog n l o (.bool (!eqLn a b p a' b' p')) := rp2 hx hy (fun ρ h1 h2 w => by
 unfold execOp
 have h := neqL a b p a' b' p' w
 have hg : Try.prog.eqGuardType Try.prog.depth 31 = false := by kernel_rfl
 simp only [ho, h1, h2]
 simp [eqGuard, Sem.run_bind, hg, h])
theorem pEqlLn {a b : Int} {p : Bool} {a' b' : Int} {p' : Bool} (ho : o.op = .binOp .eql 31 x y ty) (hx : evl l x = some (Lnv a b p)) (hy : evl l y = some (Lnv a' b' p')) : RP Try.prog n l o (.bool (eqLn a b p a' b' p')) := rp2 hx hy (fun ρ h1 h2 w => by
 unfold execOp
 have h := eqlL a b p a' b' p' w
 have hg : Try.prog.eqGuardType Try.prog.depth 31 = false := by kernel_rfl
 simp only [ho, h1, h2]
 simp [eqGuard, Sem.run_bind, hg, h])
end
set_option maxRecDepth 100000 in
set_option maxHeartbeats 4000000 in
theorem far_any (l : List Tw) (A : Option Addr) (cap : Nat) (w : World) (hrow : Arr 6 eTw w (.slice A l.length cap) l) : Calls Try.prog 4 #[.slice A l.length cap] w (Back (.bool (farT l)) w) := by
 have hrow0 := hrow
 obtain ⟨A1, cap1, e0, -, ⟨hlhA, -⟩, hA⟩ := hrow
 obtain ⟨rfl, -, rfl⟩ : A = A1 ∧ True ∧ cap = cap1 := by injection e0 with e1 _ e3; exact ⟨e1, trivial, e3⟩
 clear e0
 refine J_enter (fun _ => False) (vs := [.slice A l.length cap]) (k := 19) (l := [(0, .slice A l.length cap)]) Try.func4 rfl rfl Try.ntmps4 rfl rfl (Wd.start _) ?_
 refine s11 ?_
 refine JL_dec (fun h6 => ?_) (fun h6 => ?_)
 ·refine s4 ?_
  refine kJ [] ?_
  refine s6 ?_
  refine JR_one rfl (rr_tmp rfl) ?_
  intro w' hw
  exact ⟨by rw [far_y1 (by omega)], hw.bel⟩
 ·refine s7 ?_
  refine kJ [(0, _)] ?_
  refine s5 ?_
  refine xL (T := Nat) (fun k => k ≤ l.length ∧ ∀ j (hj : j < l.length), j < k → (l[j]'hj).d.n ≤ 20) (fun k => [(0, .slice A l.length cap), (3, .int .i64 (k : Nat))]) (fun k => []) (fun k => l.length - k) 0 ⟨Nat.zero_le _, fun j _ h => absurd h (Nat.not_lt_zero _)⟩ ?_
  rintro k ⟨hk, hall⟩
  refine s7 ?_
  refine JL_dec (fun h10 => ?_) (fun h10 => ?_)
  ·refine s8 ?_
   have hlt : k < l.length := by omega
   obtain ⟨bk, qx, rfl, hh⟩ := hA (by intro e; subst e; simp at hlt)
   obtain ⟨⟨⟨xteam, xnn, xlate, xshort, xhow⟩, ⟨xA, xn, xk, xl⟩⟩, hx⟩ : ∃ y, l[k]'hlt = y := ⟨_, rfl⟩
   refine kJ [(0, _), (3, _)] ?_
   refine s5 ?_
   refine aV (vHold (i := 5) (v := .slice xA xn xk) rfl rfl (fun h => h) hh hlt (by omega) (by rw [hx]; rfl)) ?_
   refine s2 ?_
   refine JL_dec (fun h19 => ?_) (fun h19 => ?_)
   ·refine s4 ?_
    refine kJ [] ?_
    refine s10 ?_
    refine JR_one rfl (rr_tmp rfl) ?_
    intro w' hw
    exact ⟨by rw [far_y2 hlt hx (by dsimp only; omega)], hw.bel⟩
   ·refine s6 ?_
    refine kJ [(0, _), (3, _)] ?_
    refine s5 ?_
    have hn : ∀ j (hj : j < l.length), j < k + 1 → (l[j]'hj).d.n ≤ 20 := fun j hj hjk => by
     rcases Nat.lt_or_ge j k with h | h
     ·exact hall j hj h
     ·obtain rfl : j = k := by omega
      rw [hx]; dsimp only; omega
    exact xR (k + 1) ⟨by omega, hn⟩ (by omega) (hl := ⟨rfl, (congrArg some (by go_num)), trivial⟩)
  ·refine s9 ?_
   refine kJ [] ?_
   refine s5 ?_
   refine JR_one rfl (rr_tmp rfl) ?_
   intro w' hw
   exact ⟨by rw [far_n (by omega) (fun j hj => hall j hj (by omega))], hw.bel⟩
/-- The choices that are left. -/
def nxA (l : List Int) (A : Option Addr) (c : Nat) : Option Addr × Nat := if l = [] then (A, c) else (if c = 1 then A else A.map (·.add (1 * 1)), c - 1)
theorem nx_arr {l : List Int} {A : Option Addr} {c : Nat} {w : World} (h : Arr 1 eI w (.slice A l.length c) l) : Arr 1 eI w (.slice (nxA l A c).1 l.tail.length (nxA l A c).2) l.tail := by
 unfold nxA
 cases l with
 | nil => exact h
 | cons u l2 => rw [if_neg (by simp)]; exact h.drop (m := 1) (by simp)
theorem arr_lt {l : List Int} {A : Option Addr} {c : Nat} {w : World} (h : Arr 1 eI w (.slice A l.length c) l) (hl : l ≠ []) : ∀ q o, A = some ⟨q, o, none⟩ → q < w.heap.size := by
 obtain ⟨A1, c1, e, -, -, hA⟩ := h
 injection e with e1
 subst e1
 obtain ⟨b, o, e2, hh⟩ := hA hl
 intro q o2 e3
 rw [e2] at e3
 injection e3 with e3
 injection e3 with e4
 subst e4
 have h0 : 0 < l.length := List.length_pos_iff.2 hl
 have := hh 0 h0 0 (by omega)
 exact lt_cell (b := b) (o := o + 0 * 1 + 0) (v := .int .i64 (l[0]'h0)) (by rw [this]; rfl)
set_option maxRecDepth 100000 in
set_option maxHeartbeats 4000000 in
theorem next_any (l : List Int) (A : Option Addr) (c b : Nat) (w : World) (hrow : Arr 1 eI w (.slice A l.length c) l) (hnb : l ≠ [] → ∀ q o, A = some ⟨q, o, none⟩ → q ≠ b) (hA0 : (cellB b [.slice A l.length c] 25).holds w) (hAf : ∀ q, (cellB b [.slice A l.length c] 25).foot q → q < w.heap.size) : Calls Try.prog 17 #[.pointer (some ⟨b, 0, none⟩)] w (RetM (cellB b [.slice A l.length c] 25) (fun t : Option Addr × Nat => t = nxA l A c) (fun _ => .int .i64 (l.headD 0)) (fun t => cellB b [.slice t.1 l.tail.length t.2] 25) w) := by
 have hrow0 := hrow
 obtain ⟨A1, cap1, e0, -, ⟨hlhA, -⟩, hA⟩ := hrow
 obtain ⟨rfl, -, rfl⟩ : A = A1 ∧ True ∧ c = cap1 := by injection e0 with e1 _ e3; exact ⟨e1, trivial, e3⟩
 clear e0
 refine J_start (B := ⟨w, (cellB b [.slice A l.length c] 25).foot, none, []⟩) rfl rfl (vs := [.pointer (some ⟨b, 0, none⟩)]) (k := 20) (l := [(0, .pointer (some ⟨b, 0, none⟩))]) Try.func17 rfl rfl Try.ntmps17 rfl rfl (Wd.startM hA0 hAf) ?_
 refine s13 ?_
 refine JL_dec (fun h8 => ?_) (fun h8 => ?_)
 ·refine s4 ?_
  refine kJ [] ?_
  refine s6 ?_
  refine JR_one rfl (rr_tmp rfl) ?_
  intro w' hw
  obtain rfl : l = [] := List.length_eq_zero_iff.1 (by omega)
  exact ⟨(A, c), rfl, rfl, hw.pick (by repeat constructor)⟩
 ·refine s6 ?_
  obtain ⟨u, l2, rfl⟩ : ∃ u l2, l = u :: l2 := by
   cases l with
   | nil => exact absurd rfl h8
   | cons u l2 => exact ⟨u, l2, rfl⟩
  ·obtain ⟨bk, qx, rfl, hh⟩ := hA (by simp)
   have hnf : ¬ (cellB b [.slice (some ⟨bk, qx, none⟩) (u :: l2).length c] 25).foot bk := fun h => hnb (by simp) bk qx rfl h
   have hlen1 : (u :: l2).length = l2.length + 1 := rfl
   refine kJ [(0, _)] ?_
   refine s4 ?_
   refine aP (pIdxI (0) rfl rfl rfl rfl) ?_
   refine aV (vHold (k := 1) (j := 0) (i := 0) (v := .int .i64 u) rfl rfl hnf hh (Nat.zero_lt_succ _) (by omega) rfl) ?_
   refine s4 ?_
   refine kJ [(0, _), (3, _)] ?_
   refine s5 ?_
   refine aP (rp_sliceFrom (k := 1) rfl rfl rfl Und.h Siz.h rfl (by omega)) ?_
   refine s5 ?_
   refine kJ [(3, _)] ?_
   refine s6 ?_
   refine JR_one rfl (rr_tmp rfl) ?_
   intro w' hw
   exact ⟨(if c = 1 then some ⟨bk, qx, none⟩ else (some (⟨bk, qx, none⟩ : Addr)).map (·.add (1 * 1)), c - 1), by unfold nxA; rw [if_neg (by simp)], rfl, hw.pick (by repeat constructor)⟩
def RetMi (l : List St) (w : World) (e : Ending) (w' : World) : Prop := if chkB l = true then Ret w (fun _ : Option Addr × Nat => True) (fun t => .tuple #[.slice t.1 l.length t.2, .int .i64 0]) (fun t => [ownB 49 4 t.1 l.length t.2 ((l.map mirS).flatMap eT)]) e w' else Back (.tuple #[.slice none 0 0, .int .i64 2]) w e w'
theorem mir_set {l : List St} {k : Nat} {x : St} (h : k < l.length) (hx : l[k]'h = x) : ((l.take k).map mirW ++ l.drop k).set k (mirW x) = (l.take (k + 1)).map mirW ++ l.drop (k + 1) := by
 have hl : ((l.take k).map mirW).length = k := by rw [List.length_map, List.length_take]; omega
 rw [List.set_append_right _ _ (by omega), hl, Nat.sub_self, List.drop_eq_getElem_cons h, List.set_cons_zero, List.take_succ_eq_append_getElem h, List.map_append, List.append_assoc, hx]
 rfl
theorem mir_at {l : List St} {k : Nat} {x : St} (h : k < l.length) (hx : l[k]'h = x) : ∃ hk : k < ((l.take k).map mirW ++ l.drop k).length, ((l.take k).map mirW ++ l.drop k)[k]'hk = x := by
 have hl : ((l.take k).map mirW).length = k := by rw [List.length_map, List.length_take]; omega
 refine ⟨by rw [List.length_append, hl, List.length_drop]; omega, ?_⟩
 rw [List.getElem_append_right (by omega)]
 simp only [hl, Nat.sub_self]
 rw [List.getElem_drop]
 exact hx
set_option maxRecDepth 100000 in
set_option maxHeartbeats 4000000 in
theorem Mirror_any (l : List St) (v : Value) (w : World) (hrow : Arr 4 eT w v l) : Calls Try.prog 9 #[v] w (RetMi l w) := by
 have hrow0 := hrow
 obtain ⟨A, cap, rfl, -, ⟨hl, -⟩, hA⟩ := hrow
 refine J_enter (fun _ => False) (vs := [.slice A l.length cap]) (k := 29) (l := [(0, .slice A l.length cap)]) Try.func9 rfl rfl Try.ntmps9 rfl rfl (Wd.start _) ?_
 refine s10 ?_
 refine aCB (fun w hw => Check_any l _ w (hrow0.up ET hw.bel)) ?_
 refine JL_bool (fun h7 => ?_) (fun h7 => ?_)
 ·refine s7 ?_
  refine kJ [(0, _)] ?_
  refine s2 ?_
  refine aS (oS (fun w hw => CloneT l _ w (hrow0.up ET hw.bel) (by have := (chk_facts h7).1; omega))) (fun A10 c10 => ?_)
  refine s12 ?_
  refine xL (T := Nat) (fun k => k ≤ l.length) (fun k => [(4, .slice A10 l.length c10), (12, .int .i64 (l.length : Nat)), (13, .int .i64 (k : Nat))]) (fun k => [ownB 49 4 A10 l.length c10 (((l.take k).map mirW ++ l.drop k).flatMap eT)]) (fun k => l.length - k) 0 (Nat.zero_le _) ?_ (hH := by (try dsimp only); rw [List.take_zero, List.map_nil, List.nil_append, List.drop_zero]; repeat constructor)
  rintro k hk
  refine s3 ?_
  refine JL_dec (fun h14 => ?_) (fun h14 => ?_)
  ·refine s14 ?_
   have hlt : k < l.length := by omega
   obtain ⟨⟨xt, xn, xx, xy⟩, hx⟩ : ∃ y, l[k]'hlt = y := ⟨_, rfl⟩
   obtain ⟨hkM, hkx⟩ := mir_at hlt hx
   have hset := mir_set hlt hx
   obtain ⟨Mm, hMm⟩ : ∃ Mm, Mm = (l.take k).map mirW ++ l.drop k := ⟨_, rfl⟩
   simp only [← hMm] at hkM hkx hset ⊢
   refine J_fact (fun hw => ?_)
   obtain ⟨g, rfl⟩ := own_some hw (ty := 49) (k := 4) (m := l.length) (c := c10) (A := A10) (xs := Mm.flatMap eT) (by repeat constructor) (by omega)
   clear hw
   refine s8 ?_
   refine aV (vOwn ET (v := .int .i64 xx) (i := 2) (L := Mm) (j := k) rfl rfl (by repeat constructor) hkM (by omega) (by rw [hkx]; rfl)) ?_
   refine aP (pNegW (u := ⟨by kernel_rfl⟩) rfl rfl) ?_
   refine s3 ?_
   refine aW0 (oStE ET [_] (mirW (⟨xt, xn, xx, xy⟩ : St)) hkM (hi := Nat.le_of_ble_eq_true rfl) (hr := by rw [hkx]; rfl)) ?_
   refine s3 ?_
   refine kJ [(4, _), (12, _), (13, _)] ?_
   refine s4 ?_
   exact xR (k + 1) (by omega) (by omega) (hl := ⟨rfl, rfl, (congrArg some (by go_num)), trivial⟩) (hH := by (try dsimp only); rw [← hset]; repeat constructor)
  ·refine s17 ?_
   refine JR_two rfl (rr_tmp rfl) (rr_tmp rfl) ?_
   intro w' hw
   unfold RetMi
   rw [if_pos h7]
   obtain rfl : k = l.length := by omega
   rw [List.take_length, List.drop_length, List.append_nil] at hw
   have hm : l.map mirW = l.map mirS := List.map_congr_left (fun s hs => mir_same (((chk_iff l).1 h7).2.1 s hs))
   rw [hm] at hw
   exact ⟨(A10, c10), trivial, rfl, hw.pick (by repeat constructor)⟩
 ·refine s5 ?_
  refine kJ [] ?_
  refine s7 ?_
  refine JR_two rfl (rr_tmp rfl) (rr_tmp rfl) ?_
  intro w' hw
  unfold RetMi
  rw [if_neg (by rw [h7]; decide)]
  exact ⟨rfl, hw.bel⟩
end Go.Proofs.Ytmcpnoailbmkkaa
/- Layer 7, in plain Lean: an end keeps its bounds. -/
namespace Go.Proofs.Ytmcpnoailbmkkaa
open Go Go.RowKit Go.Proofs
/-! ### The end keeps its bounds -/
theorem dd_memP {y : List St × Bool} : ∀ (L r : List (List St × Bool)), y ∈ L.foldl (fun r o => if r.any (fun p => decide (p = o)) = true then r else r ++ [o]) r → y ∈ r ∨ y ∈ L
 | [], r, h => .inl h
 | o :: L, r, h => by
  rw [List.foldl_cons] at h
  rcases dd_memP L _ h with h1 | h1
  ·split at h1
   ·exact .inl h1
   ·rcases List.mem_append.1 h1 with h2 | h2
    ·exact .inl h2
    ·exact .inr (by rw [List.mem_singleton.1 h2]; exact List.mem_cons_self)
  ·exact .inr (List.mem_cons_of_mem _ h1)
theorem ddP_mem {y : List St × Bool} {L : List (List St × Bool)} (h : y ∈ ddP L) : y ∈ L := by
 rcases dd_memP L [] h with h | h
 ·cases h
 ·exact h
theorem dd_lenP : ∀ (L r : List (List St × Bool)), r.length ≤ (L.foldl (fun r o => if r.any (fun p => decide (p = o)) = true then r else r ++ [o]) r).length
 | [], r => Nat.le_refl _
 | o :: L, r => by
  rw [List.foldl_cons]
  refine Nat.le_trans ?_ (dd_lenP L _)
  split
  ·exact Nat.le_refl _
  ·rw [List.length_append]; omega
theorem ddP_pos (o : List St × Bool) (L : List (List St × Bool)) : 1 ≤ (ddP (o :: L)).length := dd_lenP L [o]
theorem outF_pos (l m : List St) (x : Th) (r : Int) : 1 ≤ (outF l m x r).length := by
 unfold outF
 repeat' split
 all_goals exact ddP_pos _ _
theorem outF_mem {l m : List St} {x : Th} {r : Int} {y : List St × Bool} (h : y ∈ outF l m x r) : y.1 = srt l ∨ y.1 = srt m ∨ y.1 = srt (m.filter (fun s => !isB x.team x.n s)) := by
 unfold outF at h
 repeat' split at h
 all_goals
  have h1 := ddP_mem h
  simp only [List.mem_cons, List.not_mem_nil, or_false] at h1
  rcases h1 with h1 | h1 | h1 <;> (try subst h1) <;> simp_all
theorem outF_16 {l m : List St} {x : Th} {r : Int} {y : List St × Bool} (h : y ∈ outF l m x r) (hl : l.length ≤ 16) (hm : m.length ≤ 16) : y.1.length ≤ 16 := by
 rcases outF_mem h with e | e | e <;> rw [e, srt_len]
 ·exact hl
 ·exact hm
 ·exact Nat.le_trans (List.length_filter_le _ _) hm
theorem took_ok {E : En} (h : EnOk E) (ht : E.tn < 2 * E.c.e) {o : List St × Bool} (ho : o.1.length ≤ 16) : EnOk (tookE E o) := by
 have h1 := h.tn
 refine ⟨h.e, h.fr, ?_, ho, fun r hr => (by cases hr)⟩
 unfold tookE
 dsimp only
 split <;> omega
theorem thr_ok {E : En} {m : List St} {x : Th} (h : EnOk E) (hq : thrE E m x = 0) : EnOk (thrN E m x) := by
 obtain ⟨z0, z1, z2, z3⟩ := thr_0 hq
 obtain ⟨z4, z5⟩ := next_iff.1 z0
 have h1 := h.tn
 have hm := (chk_facts (thr_parts z3).2.1).1
 have h16 : ∀ y ∈ outE E m x, y.1.length ≤ 16 := fun y hy => outF_16 hy h.l hm
 have hp := outF_pos E.l m x (rulE E m x)
 have hl := outF_len E.l m x (rulE E m x)
 by_cases hn : (outE E m x).length = 1
 ·obtain ⟨q, hq2⟩ := List.length_eq_one_iff.1 hn
  rw [thr_one hq2]
  exact took_ok h (by omega) (h16 q (by rw [hq2]; exact List.mem_cons_self))
 ·rw [thr_many hn]
  refine ⟨h.e, h.fr, h.tn, h.l, fun r hr => ?_⟩
  cases hr
  have hn2 : (outF E.l m x (rulE E m x)).length ≠ 1 := hn
  exact ⟨by show E.tn < 2 * E.c.e; omega, ⟨by show 1 < (outF E.l m x (rulE E m x)).length; omega, hl⟩, h16⟩
theorem chs_ok {E : En} {i : Int} (h : EnOk E) (hq : chsE E i = 0) : EnOk (chsN E i) := by
 cases hp : E.p with
 | none => unfold chsE at hq; rw [hp] at hq; cases hq
 | some r =>
  have h1 := h.p r hp
  have h2 : 0 ≤ i ∧ i ≤ (r.2.2.length : Int) - 1 := by
   unfold chsE at hq
   rw [hp] at hq
   dsimp only at hq
   split at hq
   ·assumption
   ·cases hq
  have h3 : i.toNat < r.2.2.length := by omega
  have h4 : chsN E i = tookE E (r.2.2[i.toNat]'h3) := by
   unfold chsN
   rw [hp]
   dsimp only
   rw [List.getD_eq_getElem?_getD, List.getElem?_eq_getElem h3]
   rfl
  rw [h4]
  exact took_ok h h1.1 (h1.2.2 _ (List.getElem_mem _))
theorem new_ok {c : Cd} {first power : Int} (h : goodR c first power = 0) : EnOk (newE c first power) ∧ ccB c = true := by
 unfold goodR at h
 split at h
 ·rename_i h1
  have h2 := h1.1
  have h3 : 1 ≤ c.e ∧ c.e ≤ 8 := by
   unfold ccB at h2
   simp only [Bool.and_eq_true, decide_eq_true_eq] at h2
   exact h2.1.2
  have h4 : (newE c first power).l.length ≤ 16 := by
   unfold newE
   dsimp only
   split
   ·rw [srt_len]; exact Nat.le_of_ble_eq_true rfl
   ·exact Nat.zero_le _
  exact ⟨⟨h3, h1.2, ⟨Int.le_refl _, by show (0 : Int) ≤ 2 * c.e; omega⟩, h4, fun r hr => (by cases hr)⟩, h2⟩
 ·cases h
end Go.Proofs.Ytmcpnoailbmkkaa
/- Across layers: an end is played. -/
namespace Go.Proofs.Ytmcpnoailbmkkaa
open Go Go.RowKit Go.Proofs
attribute [local irreducible] J JQ JL JA JD

theorem New_grp (c : Cd) (first power : Int) (w : World) (hg : goodR c first power = 0) : Calls Try.prog 13 #[Cdv c, .int .i64 first, .int .i64 power] w (Ret w (fun t : Nat × EnM => EnP (newE c first power) t.2) (fun t => .tuple #[.pointer (some ⟨t.1, 0, none⟩), .int .i64 0]) (fun t => [grpB (endI t.1 t.2)])) := (New_any c first power w).mono (fun _ _ h => by
 unfold RetNew at h
 rw [if_pos hg] at h
 obtain ⟨t, h1, h2, h3⟩ := h
 exact ⟨t, h1, h2, h3.close (HA := endI t.1 t.2) (H1 := []) (by rw [List.append_nil]; exact Pk.refl _) (endI_nro _ _)⟩)
def RetEn (c : Cd) (first power : Int) (ys : List (Th × List St)) (cs : List Int) (w : World) (e : Ending) (w' : World) : Prop :=
 if endE c first power ys cs = 0 then Ret w (fun _ : Option Addr × Nat => True) (fun t => .tuple #[Lnv (scoF (endS c first power ys cs)).1 (scoF (endS c first power ys cs)).2.1 (decide (power ≠ 0)), .slice t.1 (endS c first power ys cs).l.length t.2, .int .i64 0]) (fun t => [ownB 49 4 t.1 (endS c first power ys cs).l.length t.2 ((endS c first power ys cs).l.flatMap eT)]) e w'
 else Back (.tuple #[Lnv 0 0 false, .slice none 0 0, .int .i64 (endE c first power ys cs)]) w e w'
theorem en_no {c : Cd} {first power : Int} {ys : List (Th × List St)} {cs : List Int} {w : World} {e : Ending} {w' : World} {q : Int} (hq : endE c first power ys cs = q) (h0 : q ≠ 0) (h : Back (.tuple #[Lnv 0 0 false, .slice none 0 0, .int .i64 q]) w e w') : RetEn c first power ys cs w e w' := by
 unfold RetEn
 rw [hq, if_neg h0]
 exact h
theorem run_step {E : En} {YS : List (Th × List St)} {k : Nat} {cs : List Int} {y : Th × List St} (hk : k < YS.length) (hy : YS[k]'hk = y) : runE E (YS.drop k) cs = if thrE E y.2 y.1 ≠ 0 then (thrE E y.2 y.1, E, cs) else
  if (thrN E y.2 y.1).p = none then runE (thrN E y.2 y.1) (YS.drop (k + 1)) cs else
  if chsE (thrN E y.2 y.1) (cs.headD 0) ≠ 0 then (chsE (thrN E y.2 y.1) (cs.headD 0), thrN E y.2 y.1, cs.tail) else runE (chsN (thrN E y.2 y.1) (cs.headD 0)) (YS.drop (k + 1)) cs.tail := by
 rw [List.drop_eq_getElem_cons hk, hy]
 conv => lhs; unfold runE
theorem en_1 {c : Cd} {first power : Int} {ys : List (Th × List St)} {cs : List Int} (h : 100 < ys.length) : endE c first power ys cs = 3 := by unfold endE; rw [if_pos h]
theorem en_2 {c : Cd} {first power : Int} {ys : List (Th × List St)} {cs : List Int} (h : ¬ 100 < ys.length) (h2 : goodR c first power ≠ 0) : endE c first power ys cs = goodR c first power := by unfold endE; rw [if_neg h, if_pos h2]
theorem en_3 {c : Cd} {first power : Int} {ys : List (Th × List St)} {cs : List Int} {r : Int × En × List Int} (h : ¬ 100 < ys.length) (h2 : goodR c first power = 0) (hr : runE (newE c first power) ys cs = r) (h3 : r.1 ≠ 0) : endE c first power ys cs = r.1 := by
 unfold endE; rw [if_neg h, if_neg (show ¬ (goodR c first power ≠ 0) from fun h => h h2), hr, if_pos h3]
theorem en_4 {c : Cd} {first power : Int} {ys : List (Th × List St)} {cs : List Int} {E : En} {cs2 : List Int} (h : ¬ 100 < ys.length) (h2 : goodR c first power = 0) (hr : runE (newE c first power) ys cs = (0, E, cs2)) : endE c first power ys cs = (scoF E).2.2 ∧ endS c first power ys cs = E := by
 unfold endE endS; rw [if_neg h, if_neg (show ¬ (goodR c first power ≠ 0) from fun h => h h2), hr, if_neg (show ¬ ((0 : Int) ≠ 0) from fun h => h rfl)]; exact ⟨rfl, rfl⟩
set_option maxRecDepth 100000 in
set_option maxHeartbeats 4000000 in
theorem End_any (c : Cd) (first power : Int) (l : List Tw) (A : Option Addr) (cap : Nat) (cs0 : List Int) (cA : Option Addr) (cc : Nat) (w : World) (hrow : Arr 6 eTw w (.slice A l.length cap) l) (hT : ∀ p ∈ l, TwW w p) (hcs0 : Arr 1 eI w (.slice cA cs0.length cc) cs0) : Calls Try.prog 6 #[Cdv c, .int .i64 first, .int .i64 power, .slice A l.length cap, .slice cA cs0.length cc] w (RetEn c first power (l.map twP) cs0 w) := by
 obtain ⟨kf, kt, ks, ke, kp⟩ := c
 have hrow0 := hrow
 obtain ⟨A1, cap1, e0, -, ⟨hlhA, -⟩, hA⟩ := hrow
 obtain ⟨rfl, -, rfl⟩ : A = A1 ∧ True ∧ cap = cap1 := by injection e0 with e1 _ e3; exact ⟨e1, trivial, e3⟩
 clear e0
 refine J_enter (fun _ => False) (vs := [.agg #[.int .i64 kf, .int .i64 kt, .int .i64 ks, .int .i64 ke, .bool kp], .int .i64 first, .int .i64 power, .slice A l.length cap, .slice cA cs0.length cc]) (k := 81) (l := [(0, .agg #[.int .i64 kf, .int .i64 kt, .int .i64 ks, .int .i64 ke, .bool kp]), (1, .int .i64 first), (2, .int .i64 power), (3, .slice A l.length cap), (4, .slice cA cs0.length cc)]) Try.func6 rfl rfl Try.ntmps6 rfl rfl (Wd.start _) ?_
 refine s2 ?_
 refine aW (oX [_, _, _, _, _]) (fun b5 hb5 => ?_)
 refine aW (oX [_]) (fun b9 hb9 => ?_)
 refine aW oA (fun b10 hb10 => ?_)
 refine s6 ?_
 refine kJ [(1, _), (2, _), (3, _), (5, _), (9, _), (10, _)] ?_
 refine s4 ?_
 refine JL_dec (fun h25 => ?_) (fun h25 => ?_)
 ·refine s4 ?_
  refine kJ [(10, _)] ?_
  refine s1 ?_
  refine aP (rp_buildC (fun us => [.int .i64 0, .int .i64 0, .bool false]) rfl rfl (fun w => by kernel_rfl)) ?_
  refine s7 ?_
  refine JR_three rfl (rr_agg (cs := [_, _, _]) rfl Agg.h (Siz.h (k := 3)) (by repeat constructor) (by rfl)) (rr_tmp rfl) (rr_tmp rfl) ?_
  intro w' hw
  exact en_no (en_1 (by rw [List.length_map]; omega)) (by decide) ⟨rfl, hw.bel⟩
 ·refine s6 ?_
  by_cases hg : goodR (⟨kf, kt, ks, ke, kp⟩ : Cd) first power = 0
  ·have hok00 := (new_ok hg).1
   refine s4 ?_
   refine aW (oR (fun w hw => New_grp (⟨kf, kt, ks, ke, kp⟩ : Cd) first power w hg)) (fun t27 ht27 => ?_)
   obtain ⟨b27, e0⟩ := t27
   dsimp only at ht27 ⊢
   have hok0 : EnOk e0.pl := by rw [ht27.1]; exact hok00
   have hn0 := ht27.2
   refine s9 ?_
   refine kJ [(2, _), (3, _), (9, _), (10, _), (12, _), (13, _)] ?_
   refine s3 ?_
   refine aDecF ?_ (fun h => h rfl)
   refine s14 ?_
   refine xL (T := Nat × EnM × List Int × Option Addr × Nat) (fun q => q.1 ≤ l.length ∧ EnOk q.2.1.pl ∧ (∀ m, q.2.1.p = some m → ∀ p ∈ m.t.L, p.d.n = p.d.l.length ∧ p.d.l.length ≤ 16) ∧ runE (newE (⟨kf, kt, ks, ke, kp⟩ : Cd) first power) (l.map twP) cs0 = runE q.2.1.pl ((l.map twP).drop q.1) q.2.2.1 ∧ Arr 1 eI w (.slice q.2.2.2.1 q.2.2.1.length q.2.2.2.2) q.2.2.1) (fun q => [(2, .int .i64 power), (9, .pointer (some ⟨b9, 0, none⟩)), (10, .pointer (some ⟨b10, 0, none⟩)), (13, .pointer (some ⟨b27, 0, none⟩)), (38, .slice A l.length cap), (39, .int .i64 (l.length : Nat)), (40, .int .i64 (q.1 : Nat))]) (fun q => [cellB b9 [.slice q.2.2.2.1 q.2.2.1.length q.2.2.2.2] 25, cellB b10 [.int .i64 0, .int .i64 0, .bool false] 31, grpB (endI b27 q.2.1)]) (fun q => l.length - q.1) (0, e0, cs0, cA, cc) ⟨Nat.zero_le _, hok0, hn0, by dsimp only; rw [ht27.1, List.drop_zero], hcs0⟩ ?_
   rintro ⟨k, e, cs, dA, dc⟩ ⟨hk, hok, hn, hrun, hcs⟩
   dsimp only at hk hok hn hrun hcs ⊢
   refine s3 ?_
   refine JL_dec (fun h41 => ?_) (fun h41 => ?_)
   ·refine s9 ?_
    have hlt : k < l.length := by omega
    obtain ⟨bk, qx, rfl, hh⟩ := hA (by intro e; subst e; simp at hlt)
    obtain ⟨⟨⟨xteam, xnn, xlate, xshort, xhow⟩, ⟨xA, xn, xk, xl⟩⟩, hx⟩ : ∃ y, l[k]'hlt = y := ⟨_, rfl⟩
    obtain ⟨hxa, hxn⟩ := hT _ (show (⟨⟨xteam, xnn, xlate, xshort, xhow⟩, ⟨xA, xn, xk, xl⟩⟩ : Tw) ∈ l by rw [← hx]; exact List.getElem_mem _)
    dsimp only at hxa hxn
    subst hxn
    have hrun2 := run_step (E := e.pl) (YS := (l.map twP)) (k := k) (cs := cs) (y := ((⟨xteam, xnn, xlate, xshort, xhow⟩ : Th), xl)) (by rw [List.length_map]; exact hlt) (by rw [List.getElem_map, hx]; rfl)
    rw [← hrun] at hrun2
    dsimp only at hrun2
    refine s2 ?_
    refine aV (vHoldA (cs := [.int .i64 xteam, .int .i64 xnn, .bool xlate, .bool xshort, .int .i64 xhow, .slice xA xl.length xk]) ETw rfl rfl (fun h => h) hh hlt (by rw [hx]; rfl)) ?_
    refine aW oA (fun b15 hb15 => ?_)
    refine s5 ?_
    by_cases hq : thrE e.pl xl (⟨xteam, xnn, xlate, xshort, xhow⟩ : Th) = 0
    ·rw [if_neg (show ¬ (thrE e.pl xl (⟨xteam, xnn, xlate, xshort, xhow⟩ : Th) ≠ 0) from fun h => h hq)] at hrun2
     refine s3 ?_
     refine aW (oL [grpB (endI b27 e)] [cellB b9 [.slice dA cs.length dc] 25, cellB b10 [.int .i64 0, .int .i64 0, .bool false] 31, cellB b15 [.int .i64 xteam, .int .i64 xnn, .bool xlate, .bool xshort, .int .i64 xhow, .slice xA xl.length xk] 42] (fun w hw h0 => Throw_yes b27 e xl (⟨xteam, xnn, xlate, xshort, xhow⟩ : Th) xA xk w h0.startL hok (fun W hW => hxa.up ET (hw.belL (HA := [grpB (endI b27 e)]) (by repeat constructor) rfl hW)) hq)) (fun t47 ht47 => ?_)
     obtain ⟨e1, ⟨jA, jc, jL⟩⟩ := t47
     obtain ⟨hEP1, hO⟩ := ht47
     dsimp only [ocI, Ruv, List.cons_append, List.nil_append] at hEP1 hO ⊢
     have ok1 : EnOk e1.pl := by rw [hEP1.1]; exact thr_ok hok hq
     refine s3 ?_
     refine aW oA (fun b16 hb16 => ?_)
     refine s5 ?_
     refine kJ [(2, _), (9, _), (10, _), (13, _), (17, _), (38, _), (39, _), (40, _)] ?_
     refine s3 ?_
     refine aDecF ?_ (fun h => h rfl)
     refine s6 ?_
     rcases hp : e1.p with _ | pm
     ·refine s2 ?_
      refine aCB (fun w hw => (Pending_any b27 e1 w (EndW.of (hw.ok (grpB (endI b27 e1)) (by repeat constructor)).1.1 ⟨rfl, hEP1.2⟩ ok1) ok1 hEP1.2).mono (fun _ _ h => by unfold RetPe at h; rw [hp] at h; exact h)) ?_
      refine s3 ?_
      refine aW oA (fun b18 hb18 => ?_)
      refine s5 ?_
      refine kJ [(2, _), (9, _), (10, _), (13, _), (19, _), (38, _), (39, _), (40, _)] ?_
      refine s3 ?_
      refine aDecF ?_ (show ¬ (9 : Int) = 0 by decide)
      refine s10 ?_
      have hp1 : (thrN e.pl xl (⟨xteam, xnn, xlate, xshort, xhow⟩ : Th)).p = none := by rw [← hEP1.1]; unfold EnM.pl; rw [hp]; rfl
      rw [if_pos hp1] at hrun2
      exact xR (k + 1, e1, cs, dA, dc) ⟨by dsimp only; omega, ok1, hEP1.2, by dsimp only; rw [hEP1.1]; exact hrun2, hcs⟩ (by dsimp only; omega) (hl := ⟨rfl, rfl, rfl, rfl, rfl, rfl, (congrArg some (by go_num)), trivial⟩)
     ·have hp1 : ¬ (thrN e.pl xl (⟨xteam, xnn, xlate, xshort, xhow⟩ : Th)).p = none := fun h => by
       rw [← hEP1.1] at h
       unfold EnM.pl at h
       rw [hp] at h
       cases h
      have hrun3 := hrun2
      rw [if_neg hp1] at hrun3
      refine s2 ?_
      refine aW (oR (fun w hw => (Pending_any b27 e1 w (EndW.of (hw.ok (grpB (endI b27 e1)) (by repeat constructor)).1.1 ⟨rfl, hEP1.2⟩ ok1) ok1 hEP1.2).mono (fun _ _ h => by unfold RetPe at h; rw [hp] at h; exact h))) (fun t56 ht56 => ?_)
      dsimp only [ocI, Ruv, List.cons_append, List.nil_append]
      refine s3 ?_
      refine aW oA (fun b18 hb18 => ?_)
      refine s5 ?_
      refine kJ [(2, _), (9, _), (10, _), (13, _), (19, _), (38, _), (39, _), (40, _)] ?_
      refine s3 ?_
      refine aDecT ?_ rfl
      refine s4 ?_
      by_cases hch : chsE e1.pl (cs.headD 0) = 0
      ·refine s2 ?_
       refine aW (oM (fun w hw => next_any cs dA dc b9 w (hcs.up EI hw.bel) (fun hne q o h => Nat.ne_of_lt (Nat.lt_of_lt_of_le (arr_lt hcs hne q o h) hb9)) (hw.ok (cellB b9 [.slice dA cs.length dc] 25) (by repeat constructor)).1 (fun q hq => ((hw.ok (cellB b9 [.slice dA cs.length dc] 25) (by repeat constructor)).2 q hq).2))) (fun t62 ht62 => ?_)
       refine aW (oM (fun w hw => (Choose_yes b27 e1 (cs.headD 0) w (hw.stL (HA := [grpB (endI b27 e1)]) (by repeat constructor)) ok1 hEP1.2 hch).mono (fun _ _ h => h.toM))) (fun t63 ht63 => ?_)
       refine s4 ?_
       refine kJ [(2, _), (9, _), (10, _), (13, _), (20, _), (38, _), (39, _), (40, _)] ?_
       refine s3 ?_
       refine aDecF ?_ (fun h => h rfl)
       refine s10 ?_
       rw [if_neg (show ¬ (chsE (thrN e.pl xl (⟨xteam, xnn, xlate, xshort, xhow⟩ : Th)) (cs.headD 0) ≠ 0) from fun h => h (by rw [← hEP1.1]; exact hch))] at hrun3
       exact xR (k + 1, t63, cs.tail, t62.1, t62.2) ⟨by dsimp only; omega, by rw [ht63.1]; exact chs_ok ok1 hch, ht63.2, by dsimp only; rw [ht63.1, hEP1.1]; exact hrun3, by dsimp only; rw [ht62]; exact nx_arr hcs⟩ (by dsimp only; omega) (hl := ⟨rfl, rfl, rfl, rfl, rfl, rfl, (congrArg some (by go_num)), trivial⟩)
      ·refine s2 ?_
       refine aW (oM (fun w hw => next_any cs dA dc b9 w (hcs.up EI hw.bel) (fun hne q o h => Nat.ne_of_lt (Nat.lt_of_lt_of_le (arr_lt hcs hne q o h) hb9)) (hw.ok (cellB b9 [.slice dA cs.length dc] 25) (by repeat constructor)).1 (fun q hq => ((hw.ok (cellB b9 [.slice dA cs.length dc] 25) (by repeat constructor)).2 q hq).2))) (fun t62 ht62 => ?_)
       refine aCB (fun w hw => Choose_no b27 e1 (cs.headD 0) w (EndW.of (hw.ok (grpB (endI b27 e1)) (by repeat constructor)).1.1 ⟨rfl, hEP1.2⟩ ok1) ok1 hch) ?_
       refine s4 ?_
       refine kJ [(2, _), (9, _), (10, _), (13, _), (20, _), (38, _), (39, _), (40, _)] ?_
       refine s3 ?_
       refine aDecT ?_ hch
       refine s4 ?_
       refine kJ [(10, _), (20, _)] ?_
       refine s1 ?_
       refine aP (rp_buildC (fun us => [.int .i64 0, .int .i64 0, .bool false]) rfl rfl (fun w => by kernel_rfl)) ?_
       refine s12 ?_
       refine JR_three rfl (rr_agg (cs := [_, _, _]) rfl Agg.h (Siz.h (k := 3)) (by repeat constructor) (by rfl)) (rr_tmp rfl) (rr_tmp rfl) ?_
       intro w' hw
       rw [if_pos (show chsE (thrN e.pl xl (⟨xteam, xnn, xlate, xshort, xhow⟩ : Th)) (cs.headD 0) ≠ 0 from fun h => hch (by rw [hEP1.1]; exact h))] at hrun3
       rw [hEP1.1] at hch
       exact en_no (en_3 (by rw [List.length_map]; omega) hg hrun3 hch) hch ⟨by rw [hEP1.1], hw.bel⟩
    ·refine s3 ?_
     refine aCB (fun w hw => Throw_no b27 e xl (⟨xteam, xnn, xlate, xshort, xhow⟩ : Th) xA xk w (EndW.of (hw.ok (grpB (endI b27 e)) (by repeat constructor)).1.1 ⟨rfl, hn⟩ hok) hok (hxa.up ET hw.bel) hq) ?_
     refine s3 ?_
     refine aW oA (fun b16 hb16 => ?_)
     refine s5 ?_
     refine kJ [(2, _), (9, _), (10, _), (13, _), (17, _), (38, _), (39, _), (40, _)] ?_
     refine s3 ?_
     refine aDecT ?_ hq
     refine s4 ?_
     refine kJ [(10, _), (17, _)] ?_
     refine s1 ?_
     refine aP (rp_buildC (fun us => [.int .i64 0, .int .i64 0, .bool false]) rfl rfl (fun w => by kernel_rfl)) ?_
     refine s13 ?_
     refine JR_three rfl (rr_agg (cs := [_, _, _]) rfl Agg.h (Siz.h (k := 3)) (by repeat constructor) (by rfl)) (rr_tmp rfl) (rr_tmp rfl) ?_
     intro w' hw
     rw [if_pos hq] at hrun2
     exact en_no (en_3 (by rw [List.length_map]; omega) hg hrun2 hq) hq ⟨rfl, hw.bel⟩
   ·refine s10 ?_
    obtain rfl : k = l.length := by omega
    rw [List.drop_of_length_le (by rw [List.length_map]; exact Nat.le_refl _)] at hrun
    have hen := en_4 (by rw [List.length_map]; omega) hg hrun
    refine kJ [(2, _), (10, _), (13, _)] ?_
    refine s2 ?_
    refine aCB (fun w hw => Score_any b27 e w (EndW.of (hw.ok (grpB (endI b27 e)) (by repeat constructor)).1.1 ⟨rfl, hn⟩ hok) hok) ?_
    refine s11 ?_
    refine kJ [(2, _), (10, _), (12, _), (13, _), (21, _), (22, _)] ?_
    refine s3 ?_
    refine JL_dec (fun h76 => ?_) (fun h76 => ?_)
    ·refine s4 ?_
     refine kJ [(10, _), (12, _)] ?_
     refine s1 ?_
     refine aP (rp_buildC (fun us => [.int .i64 0, .int .i64 0, .bool false]) rfl rfl (fun w => by kernel_rfl)) ?_
     refine s8 ?_
     refine JR_three rfl (rr_agg (cs := [_, _, _]) rfl Agg.h (Siz.h (k := 3)) (by repeat constructor) (by rfl)) (rr_tmp rfl) (rr_tmp rfl) ?_
     intro w' hw
     exact en_no hen.1 h76 ⟨rfl, hw.bel⟩
    ·refine s11 ?_
     refine aP (rp_buildC (fun us => [us.getD 0 undef, us.getD 1 undef, us.getD 2 undef]) rfl rfl (fun w => by kernel_rfl)) ?_
     refine s1 ?_
     refine aS (oS (fun w hw => Position_any b27 e.c.f e.c.t e.c.s e.c.e e.c.p e.fr e.sA e.l e.sk e.tn (pdA e.p) w (EndW.of (hw.ok (grpB (endI b27 e)) (by repeat constructor)).1.1 ⟨rfl, hn⟩ hok).cell (EndW.of (hw.ok (grpB (endI b27 e)) (by repeat constructor)).1.1 ⟨rfl, hn⟩ hok).row (by have := hok.l; dsimp only [EnM.pl] at this; omega))) (fun A85 c85 => ?_)
     refine s6 ?_
     refine JR_three rfl (rr_agg (cs := [_, _, _]) rfl Agg.h (Siz.h (k := 3)) (by repeat constructor) (by rfl)) (rr_tmp rfl) (rr_tmp rfl) ?_
     intro w' hw
     unfold RetEn
     rw [hen.1, hen.2, if_pos (show (scoF e.pl).2.2 = 0 by omega)]
     exact ⟨(A85, c85), trivial, rfl, hw.pick (by repeat constructor)⟩
  ·refine s4 ?_
   refine aCB (fun w hw => (New_any (⟨kf, kt, ks, ke, kp⟩ : Cd) first power w).mono (fun _ _ h => by unfold RetNew at h; rw [if_neg hg] at h; exact h)) ?_
   refine s9 ?_
   refine kJ [(2, _), (3, _), (9, _), (10, _), (12, _), (13, _)] ?_
   refine s3 ?_
   refine aDecT ?_ hg
   refine s4 ?_
   refine kJ [(10, _), (12, _)] ?_
   refine s1 ?_
   refine aP (rp_buildC (fun us => [.int .i64 0, .int .i64 0, .bool false]) rfl rfl (fun w => by kernel_rfl)) ?_
   refine s8 ?_
   refine JR_three rfl (rr_agg (cs := [_, _, _]) rfl Agg.h (Siz.h (k := 3)) (by repeat constructor) (by rfl)) (rr_tmp rfl) (rr_tmp rfl) ?_
   intro w' hw
   exact en_no (en_2 (by rw [List.length_map]; omega) hg) hg ⟨rfl, hw.bel⟩
end Go.Proofs.Ytmcpnoailbmkkaa
/- Across layers: mirrored, exchanged. -/
namespace Go.Proofs.Ytmcpnoailbmkkaa
open Go Go.RowKit Go.Proofs
attribute [local irreducible] J JQ JL JA JD

/-- Throws in memory, with rows of their own. -/
structure TwT where
 A : Option Addr
 c : Nat
 L : List Tw
abbrev rwT (p : Tw) : It := ownB 49 4 p.d.A p.d.n p.d.c (p.d.l.flatMap eT)
abbrev twI (t : TwT) : List It := [ownB 42 6 t.A t.L.length t.c (t.L.flatMap eTw), grpB (t.L.map rwT)]
def TwQ (ys : List (Th × List St)) (t : TwT) : Prop := t.L.map twP = ys ∧ ∀ p ∈ t.L, p.d.n = p.d.l.length ∧ p.d.l.length ≤ 20
def mirY (p : Tw) : Th × List St := (p.x, p.d.l.map mirW)
def excY (p : Tw) : Th × List St := (excX p.x, p.d.l.map excW)
theorem tw_W {w : World} {t : TwT} {ys : List (Th × List St)} (hg : (grpB (t.L.map rwT)).holds w) (hq : TwQ ys t) : ∀ p ∈ t.L, TwW w p := fun p hp => by
 obtain ⟨h1, h2⟩ := hq.2 p hp
 have h3 : (rwT p).holds w := hg.1 _ (List.mem_map.2 ⟨p, hp, rfl⟩)
 have h4 : w.ownsRow 0 49 4 (.slice p.d.A p.d.n p.d.c) p.d.n (p.d.l.flatMap eT) := h3
 refine ⟨?_, h1⟩
 show Arr 4 eT w (.slice p.d.A p.d.n p.d.c) p.d.l
 rw [h1] at h4 ⊢
 exact Arr.of_own ET h4 (by omega)
set_option maxRecDepth 100000 in
set_option maxHeartbeats 4000000 in
theorem mirY_any (l : List Tw) (A : Option Addr) (cap : Nat) (w : World) (hrow : Arr 6 eTw w (.slice A l.length cap) l) (hT : ∀ p ∈ l, TwW w p) (hfar : ∀ p ∈ l, p.d.n ≤ 20) (hl110 : l.length ≤ 110) : Calls Try.prog 7 #[.slice A l.length cap] w (Ret w (TwQ (l.map mirY)) (fun t => .slice t.A t.L.length t.c) twI) := by
 have hrow0 := hrow
 obtain ⟨A1, cap1, e0, -, ⟨hlhA, -⟩, hA⟩ := hrow
 obtain ⟨rfl, -, rfl⟩ : A = A1 ∧ True ∧ cap = cap1 := by injection e0 with e1 _ e3; exact ⟨e1, trivial, e3⟩
 clear e0
 refine J_enter (fun _ => False) (vs := [.slice A l.length cap]) (k := 53) (l := [(0, .slice A l.length cap)]) Try.func7 rfl rfl Try.ntmps7 rfl rfl (Wd.start _) ?_
 refine s12 ?_
 refine J_own0 42 6 ?_
 refine J_grp0 ?_
 refine s5 ?_
 refine xL (T := Nat × TwT) (fun q => q.1 ≤ l.length ∧ q.2.L.map twP = (l.take q.1).map mirY ∧ ∀ p ∈ q.2.L, p.d.n = p.d.l.length ∧ p.d.l.length ≤ 20) (fun q => [(0, .slice A l.length cap), (3, .slice q.2.A q.2.L.length q.2.c), (4, .int .i64 (q.1 : Nat))]) (fun q => [ownB 42 6 q.2.A q.2.L.length q.2.c (q.2.L.flatMap eTw), grpB (q.2.L.map rwT)]) (fun q => l.length - q.1) (0, ⟨none, 0, []⟩) ⟨Nat.zero_le _, rfl, fun p hp => by cases hp⟩ ?_
 rintro ⟨k, ⟨nA, nc, nL⟩⟩ ⟨hk, hm, hn⟩
 dsimp only at hk hm hn ⊢
 have hLn : nL.length ≤ 110 := by
  have h := congrArg List.length hm
  rw [List.length_map, List.length_map, List.length_take] at h
  omega
 refine s7 ?_
 refine JL_dec (fun h11 => ?_) (fun h11 => ?_)
 ·refine s8 ?_
  have hlt : k < l.length := by omega
  obtain ⟨bk, qx, rfl, hh⟩ := hA (by intro e; subst e; simp at hlt)
  obtain ⟨⟨⟨xteam, xnn, xlate, xshort, xhow⟩, ⟨xA, xn, xk, xl⟩⟩, hx⟩ : ∃ y, l[k]'hlt = y := ⟨_, rfl⟩
  obtain ⟨hxa, hxn⟩ := hT _ (show (⟨⟨xteam, xnn, xlate, xshort, xhow⟩, ⟨xA, xn, xk, xl⟩⟩ : Tw) ∈ l by rw [← hx]; exact List.getElem_mem _)
  have hx20 := hfar _ (show (⟨⟨xteam, xnn, xlate, xshort, xhow⟩, ⟨xA, xn, xk, xl⟩⟩ : Tw) ∈ l by rw [← hx]; exact List.getElem_mem _)
  dsimp only at hxa hxn hx20
  subst hxn
  obtain ⟨X1, xc1, ex, -, -, hXA⟩ := hxa
  obtain ⟨rfl, -, rfl⟩ : xA = X1 ∧ True ∧ xk = xc1 := by injection ex with e1 _ e3; exact ⟨e1, trivial, e3⟩
  clear ex
  refine kJ [(0, _), (3, _), (4, _)] ?_
  refine s4 ?_
  refine aV (vHoldA (cs := [.int .i64 xteam, .int .i64 xnn, .bool xlate, .bool xshort, .int .i64 xhow, .slice xA xl.length xk]) ETw rfl rfl (fun h => h) hh hlt (by rw [hx]; rfl)) ?_
  refine aW oA (fun b5 hb5 => ?_)
  refine s4 ?_
  refine kJ [(0, _), (3, _), (4, _), (5, _)] ?_
  refine s7 ?_
  refine J_own0 49 4 ?_
  refine s5 ?_
  refine xL (T := Nat × Option Addr × Nat) (fun q => q.1 ≤ xl.length) (fun q => [(0, .slice (some ⟨bk, qx, none⟩) l.length cap), (3, .slice nA nL.length nc), (4, .int .i64 (k : Nat)), (5, .pointer (some ⟨b5, 0, none⟩)), (6, .int .i64 (q.1 : Nat))]) (fun q => [cellB b5 [.int .i64 xteam, .int .i64 xnn, .bool xlate, .bool xshort, .int .i64 xhow, .slice q.2.1 ((xl.take q.1).map mirW).length q.2.2] 42, ownB 49 4 q.2.1 ((xl.take q.1).map mirW).length q.2.2 (((xl.take q.1).map mirW).flatMap eT), ownB 42 6 nA nL.length nc (nL.flatMap eTw), grpB (nL.map rwT)]) (fun q => xl.length - q.1) (0, none, 0) (Nat.zero_le _) ?_ (hH := by (try dsimp only); rw [show (xl.take 0).map mirW = [] from rfl]; repeat constructor)
  rintro ⟨j, mA, mc⟩ hj
  dsimp only at hj ⊢
  refine s8 ?_
  refine aV (vHold (i := 5) (v := .slice xA xl.length xk) rfl rfl (fun h => h) hh hlt (by omega) (by rw [hx]; rfl)) ?_
  refine s2 ?_
  refine JL_dec (fun h26 => ?_) (fun h26 => ?_)
  ·refine s8 ?_
   have hlty : j < xl.length := by omega
   obtain ⟨bky, qy, rfl, hh2⟩ := hXA (by intro e; subst e; simp at hlty)
   obtain ⟨⟨yt, yn, yx, yy⟩, hy⟩ : ∃ y, xl[j]'hlty = y := ⟨_, rfl⟩
   have hmy : (⟨yt, yn, yx, yy⟩ : St) ∈ xl := by rw [← hy]; exact List.getElem_mem _
   have hlM : ((xl.take j).map mirW).length ≤ 20 := by rw [List.length_map, List.length_take]; omega
   refine kJ [(0, _), (3, _), (4, _), (5, _), (6, _)] ?_
   refine s5 ?_
   refine aV (vHold (i := 5) (v := .slice (some ⟨bky, qy, none⟩) xl.length xk) rfl rfl (fun h => h) hh hlt (by omega) (by rw [hx]; rfl)) ?_
   refine s2 ?_
   refine aV (vHoldA (cs := [.int .i64 yt, .int .i64 yn, .int .i64 yx, .int .i64 yy]) ET rfl rfl (fun h => h) hh2 hlty (by rw [hy]; rfl)) ?_
   refine aW oA (fun b7 hb7 => ?_)
   refine s4 ?_
   refine kJ [(0, _), (3, _), (4, _), (5, _), (6, _), (7, _)] ?_
   refine s4 ?_
   refine aP (pNegW (u := ⟨by kernel_rfl⟩) rfl rfl) ?_
   refine s5 ?_
   refine kJ [(0, _), (3, _), (4, _), (5, _), (6, _), (7, _)] ?_
   refine s4 ?_
   refine aW (ow_sliceC (vs := [_, _, _, _]) (ty := 49) rfl rfl (by rfl) rfl rfl (fun _ => by kernel_rfl)) (fun b46 hb46 => ?_)
   refine aS (oApp (sl := 32) ET (mirW (⟨yt, yn, yx, yy⟩ : St))) (fun A47 c47 => ?_)
   refine s5 ?_
   refine kJ [(0, _), (3, _), (4, _), (5, _), (6, _)] ?_
   refine s5 ?_
   have hs : (xl.take (j + 1)).map mirW = (xl.take j).map mirW ++ [mirW (⟨yt, yn, yx, yy⟩ : St)] := by rw [List.take_succ_eq_append_getElem hlty, List.map_append, hy]; rfl
   exact xR (j + 1, A47, c47) (by dsimp only; omega) (by dsimp only; omega) (hl := ⟨rfl, rfl, rfl, rfl, (congrArg some (by go_num)), trivial⟩) (hH := by (try dsimp only); rw [hs]; repeat constructor)
  ·refine s8 ?_
   obtain rfl : j = xl.length := by omega
   rw [List.take_length]
   refine kJ [(0, _), (3, _), (4, _), (5, _)] ?_
   refine s3 ?_
   refine aW (ow_sliceC (vs := [_, _, _, _, _, _]) (ty := 42) rfl rfl (by rfl) rfl rfl (fun _ => by kernel_rfl)) (fun b51 hb51 => ?_)
   refine aS (oApp (sl := 24) ETw ((⟨(⟨xteam, xnn, xlate, xshort, xhow⟩ : Th), ⟨mA, (xl.map mirW).length, mc, xl.map mirW⟩⟩ : Tw))) (fun A52 c52 => ?_)
   refine s4 ?_
   refine kJ [(0, _), (3, _), (4, _)] ?_
   refine s5 ?_
   refine JQ_push (nL.map rwT) (rwT (⟨(⟨xteam, xnn, xlate, xshort, xhow⟩ : Th), ⟨mA, (xl.map mirW).length, mc, xl.map mirW⟩⟩ : Tw)) (map_nro (fun _ => rfl) _) ?_ (hk := (by repeat (first | exact Pk.refl _ | (apply Pk.pick; (repeat (first | exact Rm.here _ | apply Rm.there))))))
   rw [show nL.map rwT ++ [rwT (⟨(⟨xteam, xnn, xlate, xshort, xhow⟩ : Th), ⟨mA, (xl.map mirW).length, mc, xl.map mirW⟩⟩ : Tw)] = (nL ++ [(⟨(⟨xteam, xnn, xlate, xshort, xhow⟩ : Th), ⟨mA, (xl.map mirW).length, mc, xl.map mirW⟩⟩ : Tw)]).map rwT from by rw [List.map_append]; rfl]
   exact xR (k + 1, ⟨A52, c52, nL ++ [(⟨(⟨xteam, xnn, xlate, xshort, xhow⟩ : Th), ⟨mA, (xl.map mirW).length, mc, xl.map mirW⟩⟩ : Tw)]⟩) ⟨by dsimp only; omega, by dsimp only; rw [List.map_append, hm, List.take_succ_eq_append_getElem hlt, List.map_append, hx]; rfl, fun p hp => by
     rcases List.mem_append.1 hp with h | h
     ·exact hn p h
     ·rw [List.mem_singleton.1 h]; exact ⟨rfl, by dsimp only; rw [List.length_map]; exact hx20⟩⟩ (by dsimp only; omega) (hl := ⟨rfl, rfl, (congrArg some (by go_num)), trivial⟩)
 ·refine s9 ?_
  refine kJ [(3, _)] ?_
  refine s6 ?_
  refine JR_one rfl (rr_tmp rfl) ?_
  intro w' hw
  obtain rfl : k = l.length := by omega
  rw [List.take_length] at hm
  exact ⟨⟨nA, nc, nL⟩, ⟨hm, hn⟩, rfl, hw.pick (by repeat constructor)⟩
set_option maxRecDepth 100000 in
set_option maxHeartbeats 4000000 in
theorem excY_any (l : List Tw) (A : Option Addr) (cap : Nat) (w : World) (hrow : Arr 6 eTw w (.slice A l.length cap) l) (hT : ∀ p ∈ l, TwW w p) (hfar : ∀ p ∈ l, p.d.n ≤ 20) (hl110 : l.length ≤ 110) : Calls Try.prog 8 #[.slice A l.length cap] w (Ret w (TwQ (l.map excY)) (fun t => .slice t.A t.L.length t.c) twI) := by
 have hrow0 := hrow
 obtain ⟨A1, cap1, e0, -, ⟨hlhA, -⟩, hA⟩ := hrow
 obtain ⟨rfl, -, rfl⟩ : A = A1 ∧ True ∧ cap = cap1 := by injection e0 with e1 _ e3; exact ⟨e1, trivial, e3⟩
 clear e0
 refine J_enter (fun _ => False) (vs := [.slice A l.length cap]) (k := 55) (l := [(0, .slice A l.length cap)]) Try.func8 rfl rfl Try.ntmps8 rfl rfl (Wd.start _) ?_
 refine s12 ?_
 refine J_own0 42 6 ?_
 refine J_grp0 ?_
 refine s5 ?_
 refine xL (T := Nat × TwT) (fun q => q.1 ≤ l.length ∧ q.2.L.map twP = (l.take q.1).map excY ∧ ∀ p ∈ q.2.L, p.d.n = p.d.l.length ∧ p.d.l.length ≤ 20) (fun q => [(0, .slice A l.length cap), (3, .slice q.2.A q.2.L.length q.2.c), (4, .int .i64 (q.1 : Nat))]) (fun q => [ownB 42 6 q.2.A q.2.L.length q.2.c (q.2.L.flatMap eTw), grpB (q.2.L.map rwT)]) (fun q => l.length - q.1) (0, ⟨none, 0, []⟩) ⟨Nat.zero_le _, rfl, fun p hp => by cases hp⟩ ?_
 rintro ⟨k, ⟨nA, nc, nL⟩⟩ ⟨hk, hm, hn⟩
 dsimp only at hk hm hn ⊢
 have hLn : nL.length ≤ 110 := by
  have h := congrArg List.length hm
  rw [List.length_map, List.length_map, List.length_take] at h
  omega
 refine s7 ?_
 refine JL_dec (fun h11 => ?_) (fun h11 => ?_)
 ·refine s8 ?_
  have hlt : k < l.length := by omega
  obtain ⟨bk, qx, rfl, hh⟩ := hA (by intro e; subst e; simp at hlt)
  obtain ⟨⟨⟨xteam, xnn, xlate, xshort, xhow⟩, ⟨xA, xn, xk, xl⟩⟩, hx⟩ : ∃ y, l[k]'hlt = y := ⟨_, rfl⟩
  obtain ⟨hxa, hxn⟩ := hT _ (show (⟨⟨xteam, xnn, xlate, xshort, xhow⟩, ⟨xA, xn, xk, xl⟩⟩ : Tw) ∈ l by rw [← hx]; exact List.getElem_mem _)
  have hx20 := hfar _ (show (⟨⟨xteam, xnn, xlate, xshort, xhow⟩, ⟨xA, xn, xk, xl⟩⟩ : Tw) ∈ l by rw [← hx]; exact List.getElem_mem _)
  dsimp only at hxa hxn hx20
  subst hxn
  obtain ⟨X1, xc1, ex, -, -, hXA⟩ := hxa
  obtain ⟨rfl, -, rfl⟩ : xA = X1 ∧ True ∧ xk = xc1 := by injection ex with e1 _ e3; exact ⟨e1, trivial, e3⟩
  clear ex
  refine kJ [(0, _), (3, _), (4, _)] ?_
  refine s4 ?_
  refine aV (vHoldA (cs := [.int .i64 xteam, .int .i64 xnn, .bool xlate, .bool xshort, .int .i64 xhow, .slice xA xl.length xk]) ETw rfl rfl (fun h => h) hh hlt (by rw [hx]; rfl)) ?_
  refine aW oA (fun b5 hb5 => ?_)
  refine s4 ?_
  refine kJ [(0, _), (3, _), (4, _), (5, _)] ?_
  refine s3 ?_
  refine aP (pSubW rfl rfl rfl) ?_
  refine s5 ?_
  refine kJ [(0, _), (3, _), (4, _), (5, _)] ?_
  refine s7 ?_
  refine J_own0 49 4 ?_
  refine s5 ?_
  refine xL (T := Nat × Option Addr × Nat) (fun q => q.1 ≤ xl.length) (fun q => [(0, .slice (some ⟨bk, qx, none⟩) l.length cap), (3, .slice nA nL.length nc), (4, .int .i64 (k : Nat)), (5, .pointer (some ⟨b5, 0, none⟩)), (6, .int .i64 (q.1 : Nat))]) (fun q => [cellB b5 [.int .i64 (IntKind.i64.wrap (1 - xteam)), .int .i64 xnn, .bool xlate, .bool xshort, .int .i64 xhow, .slice q.2.1 ((xl.take q.1).map excW).length q.2.2] 42, ownB 49 4 q.2.1 ((xl.take q.1).map excW).length q.2.2 (((xl.take q.1).map excW).flatMap eT), ownB 42 6 nA nL.length nc (nL.flatMap eTw), grpB (nL.map rwT)]) (fun q => xl.length - q.1) (0, none, 0) (Nat.zero_le _) ?_ (hH := by (try dsimp only); rw [show (xl.take 0).map excW = [] from rfl]; repeat constructor)
  rintro ⟨j, mA, mc⟩ hj
  dsimp only at hj ⊢
  refine s8 ?_
  refine aV (vHold (i := 5) (v := .slice xA xl.length xk) rfl rfl (fun h => h) hh hlt (by omega) (by rw [hx]; rfl)) ?_
  refine s2 ?_
  refine JL_dec (fun h30 => ?_) (fun h30 => ?_)
  ·refine s8 ?_
   have hlty : j < xl.length := by omega
   obtain ⟨bky, qy, rfl, hh2⟩ := hXA (by intro e; subst e; simp at hlty)
   obtain ⟨⟨yt, yn, yx, yy⟩, hy⟩ : ∃ y, xl[j]'hlty = y := ⟨_, rfl⟩
   have hmy : (⟨yt, yn, yx, yy⟩ : St) ∈ xl := by rw [← hy]; exact List.getElem_mem _
   have hlM : ((xl.take j).map excW).length ≤ 20 := by rw [List.length_map, List.length_take]; omega
   refine kJ [(0, _), (3, _), (4, _), (5, _), (6, _)] ?_
   refine s5 ?_
   refine aV (vHold (i := 5) (v := .slice (some ⟨bky, qy, none⟩) xl.length xk) rfl rfl (fun h => h) hh hlt (by omega) (by rw [hx]; rfl)) ?_
   refine s2 ?_
   refine aV (vHoldA (cs := [.int .i64 yt, .int .i64 yn, .int .i64 yx, .int .i64 yy]) ET rfl rfl (fun h => h) hh2 hlty (by rw [hy]; rfl)) ?_
   refine aW oA (fun b7 hb7 => ?_)
   refine s4 ?_
   refine kJ [(0, _), (3, _), (4, _), (5, _), (6, _), (7, _)] ?_
   refine s3 ?_
   refine aP (pSubW rfl rfl rfl) ?_
   refine s4 ?_
   refine kJ [(0, _), (3, _), (4, _), (5, _), (6, _), (7, _)] ?_
   refine s4 ?_
   refine aW (ow_sliceC (vs := [_, _, _, _]) (ty := 49) rfl rfl (by rfl) rfl rfl (fun _ => by kernel_rfl)) (fun b48 hb48 => ?_)
   refine aS (oApp (sl := 32) ET (excW (⟨yt, yn, yx, yy⟩ : St))) (fun A49 c49 => ?_)
   refine s5 ?_
   refine kJ [(0, _), (3, _), (4, _), (5, _), (6, _)] ?_
   refine s5 ?_
   have hs : (xl.take (j + 1)).map excW = (xl.take j).map excW ++ [excW (⟨yt, yn, yx, yy⟩ : St)] := by rw [List.take_succ_eq_append_getElem hlty, List.map_append, hy]; rfl
   exact xR (j + 1, A49, c49) (by dsimp only; omega) (by dsimp only; omega) (hl := ⟨rfl, rfl, rfl, rfl, (congrArg some (by go_num)), trivial⟩) (hH := by (try dsimp only); rw [hs]; repeat constructor)
  ·refine s8 ?_
   obtain rfl : j = xl.length := by omega
   rw [List.take_length]
   refine kJ [(0, _), (3, _), (4, _), (5, _)] ?_
   refine s3 ?_
   refine aW (ow_sliceC (vs := [_, _, _, _, _, _]) (ty := 42) rfl rfl (by rfl) rfl rfl (fun _ => by kernel_rfl)) (fun b53 hb53 => ?_)
   refine aS (oApp (sl := 24) ETw ((⟨(excX (⟨xteam, xnn, xlate, xshort, xhow⟩ : Th)), ⟨mA, (xl.map excW).length, mc, xl.map excW⟩⟩ : Tw))) (fun A54 c54 => ?_)
   refine s4 ?_
   refine kJ [(0, _), (3, _), (4, _)] ?_
   refine s5 ?_
   refine JQ_push (nL.map rwT) (rwT (⟨(excX (⟨xteam, xnn, xlate, xshort, xhow⟩ : Th)), ⟨mA, (xl.map excW).length, mc, xl.map excW⟩⟩ : Tw)) (map_nro (fun _ => rfl) _) ?_ (hk := (by repeat (first | exact Pk.refl _ | (apply Pk.pick; (repeat (first | exact Rm.here _ | apply Rm.there))))))
   rw [show nL.map rwT ++ [rwT (⟨(excX (⟨xteam, xnn, xlate, xshort, xhow⟩ : Th)), ⟨mA, (xl.map excW).length, mc, xl.map excW⟩⟩ : Tw)] = (nL ++ [(⟨(excX (⟨xteam, xnn, xlate, xshort, xhow⟩ : Th)), ⟨mA, (xl.map excW).length, mc, xl.map excW⟩⟩ : Tw)]).map rwT from by rw [List.map_append]; rfl]
   exact xR (k + 1, ⟨A54, c54, nL ++ [(⟨(excX (⟨xteam, xnn, xlate, xshort, xhow⟩ : Th)), ⟨mA, (xl.map excW).length, mc, xl.map excW⟩⟩ : Tw)]⟩) ⟨by dsimp only; omega, by dsimp only; rw [List.map_append, hm, List.take_succ_eq_append_getElem hlt, List.map_append, hx]; rfl, fun p hp => by
     rcases List.mem_append.1 hp with h | h
     ·exact hn p h
     ·rw [List.mem_singleton.1 h]; exact ⟨rfl, by dsimp only; rw [List.length_map]; exact hx20⟩⟩ (by dsimp only; omega) (hl := ⟨rfl, rfl, (congrArg some (by go_num)), trivial⟩)
 ·refine s9 ?_
  refine kJ [(3, _)] ?_
  refine s6 ?_
  refine JR_one rfl (rr_tmp rfl) ?_
  intro w' hw
  obtain rfl : k = l.length := by omega
  rw [List.take_length] at hm
  exact ⟨⟨nA, nc, nL⟩, ⟨hm, hn⟩, rfl, hw.pick (by repeat constructor)⟩
end Go.Proofs.Ytmcpnoailbmkkaa
