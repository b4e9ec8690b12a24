/- Layers of the proofs, joined: G24 Ma Shb. -/
import Derived.Test.YtmcpnoailbmkkaaGreatPk3
import Derived.Shelf.Small.Bits
import Derived.Shelf.Strconv.Itoa0
import Derived.Shelf.Bits.Mul64
import Derived.Test.YtmcpnoailbmkkaaGreatProg
/- A range over a function that is left by a break. Over any program. -/
namespace Go.Proofs.YtmcpnoailbmkkaaGreat
open Go Go.RowKit Go.Proofs Go.Shelf
section
variable {P : Program} {n : Nat} {B : Bs} {Q : Exit → Act → World → Prop} {l : Sl} {H H' : List It} {c : Code} {w w' : World}
end
end Go.Proofs.YtmcpnoailbmkkaaGreat
/- Layer 6: readings. -/
namespace Go.Proofs.YtmcpnoailbmkkaaGreat
open Go Go.RowKit Go.Proofs
attribute [local irreducible] J JQ JL JA JD

abbrev Rdv (r : Rdg) : Value := .agg #[.int .i64 r.i, .int .i64 r.lo, .int .i64 r.hi]
def eRd (r : Rdg) : List Value := [.int .i64 r.i, .int .i64 r.lo, .int .i64 r.hi]
theorem ERd : Enc 3 eRd := ⟨fun _ => rfl, fun x v h => by
 simp [eRd] at h
 rcases h with rfl | rfl | rfl <;> rfl⟩
theorem fidxAny {α : Type} (p : α → Bool) (l : List α) : decide (0 ≤ fidx p l) = l.any p := by
 unfold fidx
 by_cases h : l.findIdx p < l.length
 ·rw [if_pos h]
  have h2 : l.any p = true := List.any_eq_true.2 ⟨_, List.getElem_mem h, List.findIdx_getElem⟩
  rw [h2]; exact decide_eq_true (by omega)
 ·rw [if_neg h]
  have h2 : l.any p = false := by
   rw [Bool.eq_false_iff, Ne, List.any_eq_true]
   rintro ⟨x, hx, hp⟩
   exact h (List.findIdx_lt_length_of_exists ⟨x, hx, hp⟩)
  rw [h2]; rfl
/-- A predicate, as a closure. -/
def PrRd (f : FuncId) (caps : Array Value) (p : Rdg → Bool) (l : List Rdg) (w0 : World) : Prop := ∀ x ∈ l, ∀ W, Below w0.heap.size w0 W → Calls Tryz.prog f (#[] ++ #[Rdv x] ++ caps) W (Back (.bool (p x)) W)
theorem PrRd.up {f : FuncId} {caps : Array Value} {p : Rdg → Bool} {l : List Rdg} {w w1 : World} (h : PrRd f caps p l w) (hb : Below w.heap.size w w1) : PrRd f caps p l w1 := fun x hx W hW => h x hx W (hb.trans (hW.mono hb.size))
set_option maxRecDepth 100000 in
set_option maxHeartbeats 4000000 in
theorem IndexFuncRd (f : FuncId) (caps : Array Value) (p : Rdg → Bool) (l : List Rdg) (v : Value) (w : World) [hf : Cf Tryz.prog f] (hcl : PrRd f caps p l w) (hrow : Arr 3 eRd w v l) : Calls Tryz.prog 117 #[v, .func (.func f) #[] caps] w (Back (.int .i64 (fidx p l)) w) := by
 have hrow0 := hrow
 obtain ⟨A, cap, rfl, -, ⟨hl9, -⟩, hA⟩ := hrow
 refine J_enter (fun _ => False) (vs := [.slice A l.length cap, .func (.func f) #[] caps]) (k := 17) (l := [(0, .slice A l.length cap), (1, .func (.func f) #[] caps)]) Tryz.func117 rfl rfl Tryz.ntmps117 rfl rfl (Wd.start _) ?_
 refine s14 ?_
 refine xL (T := Nat) (fun k => k ≤ l.length ∧ ∀ j (hj : j < l.length), j < k → p (l[j]'hj) = false) (fun k => [(0, .slice A l.length cap), (1, .func (.func f) #[] caps), (7, .int .i64 (l.length : Nat)), (8, .int .i64 (k : Nat))]) (fun k => []) (fun k => l.length - k) 0 ⟨Nat.zero_le _, fun j _ h => absurd h (Nat.not_lt_zero _)⟩ ?_
 rintro k ⟨hk, hall⟩
 refine s3 ?_
 refine JL_dec (fun h9 => ?_) (fun h9 => ?_)
 ·refine s15 ?_
  have hltx : k < l.length := by omega
  obtain ⟨bx, qx, rfl, hh⟩ := hA (by intro e; subst e; simp at hltx)
  obtain ⟨⟨xi, xl, xh⟩, hx⟩ : ∃ y, l[k]'hltx = y := ⟨_, rfl⟩
  have hmx : (⟨xi, xl, xh⟩ : Rdg) ∈ l := by rw [← hx]; exact List.getElem_mem _
  refine s5 ?_
  refine aV (vHoldA (cs := [.int .i64 xi, .int .i64 xl, .int .i64 xh]) ERd rfl rfl (fun h => h) hh hltx (by rw [hx]; rfl)) ?_
  refine aW (ow_callB (ec_val rfl rfl rfl Cf.h) rfl rfl (fun w hw => hcl _ hmx w hw.bel)) (fun _ _ => ?_)
  refine JL_bool (fun h16 => ?_) (fun h16 => ?_)
  ·refine s4 ?_
   refine kJ [(5, _)] ?_
   refine s11 ?_
   refine JR_one rfl (rr_tmp rfl) ?_
   intro w' hw
   exact ⟨by rw [fidx_at hltx (by rw [hx]; exact h16) (fun j hj => hall j (by omega) hj)], hw.bel⟩
  ·refine s6 ?_
   refine kJ [(0, _), (1, _), (7, _), (8, _)] ?_
   refine s4 ?_
   have hn : ∀ j (hj : j < l.length), j < k + 1 → p (l[j]'hj) = false := fun j hj hjk => by
    rcases Nat.lt_or_ge j k with h | h
    ·exact hall j hj h
    ·obtain rfl : j = k := by omega
     rw [hx]; exact h16
   exact xR (k + 1) ⟨by omega, hn⟩ (by omega) (hl := ⟨rfl, rfl, rfl, (congrArg some (by go_num)), trivial⟩)
 ·refine s10 ?_
  refine kJ [] ?_
  refine s5 ?_
  refine JR_one rfl (rr_tmp rfl) ?_
  intro w' hw
  exact ⟨by rw [fidx_none (fun j hj => hall j hj (by omega))], hw.bel⟩
set_option maxRecDepth 100000 in
set_option maxHeartbeats 4000000 in
theorem ContainsFuncRd (f : FuncId) (caps : Array Value) (p : Rdg → Bool) (l : List Rdg) (v : Value) (w : World) [hf : Cf Tryz.prog f] (hcl : PrRd f caps p l w) (hrow : Arr 3 eRd w v l) : Calls Tryz.prog 83 #[v, .func (.func f) #[] caps] w (Back (.bool (l.any p)) w) := by
 have hrow0 := hrow
 obtain ⟨A, cap, rfl, -, ⟨hl9, -⟩, hA⟩ := hrow
 refine J_enter (fun _ => False) (vs := [.slice A l.length cap, .func (.func f) #[] caps]) (k := 7) (l := [(0, .slice A l.length cap), (1, .func (.func f) #[] caps)]) Tryz.func83 rfl rfl Tryz.ntmps83 rfl rfl (Wd.start _) ?_
 refine s9 ?_
 refine aCB (fun w hw => IndexFuncRd f caps p l _ w (hcl.up hw.bel) (hrow0.up ERd hw.bel)) ?_
 refine s5 ?_
 refine JR_one rfl (rr_tmp rfl) ?_
 intro w' hw
 exact ⟨by rw [fidxAny], hw.bel⟩
set_option maxRecDepth 100000 in
set_option maxHeartbeats 4000000 in
theorem IndexFuncSd (f : FuncId) (caps : Array Value) (p : Rdg → Bool) (l : List Rdg) (v : Value) (w : World) [hf : Cf Tryz.prog f] (hcl : PrRd f caps p l w) (hrow : Arr 3 eRd w v l) : Calls Tryz.prog 118 #[v, .func (.func f) #[] caps] w (Back (.int .i64 (fidx p l)) w) := by
 have hrow0 := hrow
 obtain ⟨A, cap, rfl, -, ⟨hl9, -⟩, hA⟩ := hrow
 refine J_enter (fun _ => False) (vs := [.slice A l.length cap, .func (.func f) #[] caps]) (k := 17) (l := [(0, .slice A l.length cap), (1, .func (.func f) #[] caps)]) Tryz.func118 rfl rfl Tryz.ntmps118 rfl rfl (Wd.start _) ?_
 refine s14 ?_
 refine xL (T := Nat) (fun k => k ≤ l.length ∧ ∀ j (hj : j < l.length), j < k → p (l[j]'hj) = false) (fun k => [(0, .slice A l.length cap), (1, .func (.func f) #[] caps), (7, .int .i64 (l.length : Nat)), (8, .int .i64 (k : Nat))]) (fun k => []) (fun k => l.length - k) 0 ⟨Nat.zero_le _, fun j _ h => absurd h (Nat.not_lt_zero _)⟩ ?_
 rintro k ⟨hk, hall⟩
 refine s3 ?_
 refine JL_dec (fun h9 => ?_) (fun h9 => ?_)
 ·refine s15 ?_
  have hltx : k < l.length := by omega
  obtain ⟨bx, qx, rfl, hh⟩ := hA (by intro e; subst e; simp at hltx)
  obtain ⟨⟨xi, xl, xh⟩, hx⟩ : ∃ y, l[k]'hltx = y := ⟨_, rfl⟩
  have hmx : (⟨xi, xl, xh⟩ : Rdg) ∈ l := by rw [← hx]; exact List.getElem_mem _
  refine s5 ?_
  refine aV (vHoldA (cs := [.int .i64 xi, .int .i64 xl, .int .i64 xh]) ERd rfl rfl (fun h => h) hh hltx (by rw [hx]; rfl)) ?_
  refine aW (ow_callB (ec_val rfl rfl rfl Cf.h) rfl rfl (fun w hw => hcl _ hmx w hw.bel)) (fun _ _ => ?_)
  refine JL_bool (fun h16 => ?_) (fun h16 => ?_)
  ·refine s4 ?_
   refine kJ [(5, _)] ?_
   refine s11 ?_
   refine JR_one rfl (rr_tmp rfl) ?_
   intro w' hw
   exact ⟨by rw [fidx_at hltx (by rw [hx]; exact h16) (fun j hj => hall j (by omega) hj)], hw.bel⟩
  ·refine s6 ?_
   refine kJ [(0, _), (1, _), (7, _), (8, _)] ?_
   refine s4 ?_
   have hn : ∀ j (hj : j < l.length), j < k + 1 → p (l[j]'hj) = false := fun j hj hjk => by
    rcases Nat.lt_or_ge j k with h | h
    ·exact hall j hj h
    ·obtain rfl : j = k := by omega
     rw [hx]; exact h16
   exact xR (k + 1) ⟨by omega, hn⟩ (by omega) (hl := ⟨rfl, rfl, rfl, (congrArg some (by go_num)), trivial⟩)
 ·refine s10 ?_
  refine kJ [] ?_
  refine s5 ?_
  refine JR_one rfl (rr_tmp rfl) ?_
  intro w' hw
  exact ⟨by rw [fidx_none (fun j hj => hall j hj (by omega))], hw.bel⟩
set_option maxRecDepth 100000 in
set_option maxHeartbeats 4000000 in
theorem ContainsFuncSd (f : FuncId) (caps : Array Value) (p : Rdg → Bool) (l : List Rdg) (v : Value) (w : World) [hf : Cf Tryz.prog f] (hcl : PrRd f caps p l w) (hrow : Arr 3 eRd w v l) : Calls Tryz.prog 89 #[v, .func (.func f) #[] caps] w (Back (.bool (l.any p)) w) := by
 have hrow0 := hrow
 obtain ⟨A, cap, rfl, -, ⟨hl9, -⟩, hA⟩ := hrow
 refine J_enter (fun _ => False) (vs := [.slice A l.length cap, .func (.func f) #[] caps]) (k := 7) (l := [(0, .slice A l.length cap), (1, .func (.func f) #[] caps)]) Tryz.func89 rfl rfl Tryz.ntmps89 rfl rfl (Wd.start _) ?_
 refine s9 ?_
 refine aCB (fun w hw => IndexFuncSd f caps p l _ w (hcl.up hw.bel) (hrow0.up ERd hw.bel)) ?_
 refine s5 ?_
 refine JR_one rfl (rr_tmp rfl) ?_
 intro w' hw
 exact ⟨by rw [fidxAny], hw.bel⟩
set_option maxRecDepth 100000 in
set_option maxHeartbeats 4000000 in
theorem mwithin (n a b : Int) (w : World) : Calls Tryz.prog 52 #[.int .i64 n, .int .i64 a, .int .i64 b] w (Back (.bool (decide (a ≤ n ∧ n ≤ b))) w) := by
 refine J_enter (fun _ => False) (vs := [.int .i64 n, .int .i64 a, .int .i64 b]) (k := 12) (l := [(0, .int .i64 n), (1, .int .i64 a), (2, .int .i64 b)]) Tryz.func52 rfl rfl Tryz.ntmps52 rfl rfl (Wd.start _) ?_
 refine s10 ?_
 refine JL_dec (fun h9 => ?_) (fun h9 => ?_)
 ·refine s4 ?_
  refine JL_dec (fun h13 => ?_) (fun h13 => ?_)
  ·refine s5 ?_
   refine JR_one rfl (rr_tmp rfl) ?_
   intro w' hw
   exact ⟨by congr 2; exact (by first | exact (decide_eq_true (by omega)).symm | exact (decide_eq_false (by omega)).symm), hw.bel⟩
  ·refine s5 ?_
   refine JR_one rfl (rr_tmp rfl) ?_
   intro w' hw
   exact ⟨by congr 2; exact (by first | exact (decide_eq_true (by omega)).symm | exact (decide_eq_false (by omega)).symm), hw.bel⟩
 ·refine s9 ?_
  refine JR_one rfl (rr_tmp rfl) ?_
  intro w' hw
  exact ⟨by congr 2; exact (by first | exact (decide_eq_true (by omega)).symm | exact (decide_eq_false (by omega)).symm), hw.bel⟩
set_option maxRecDepth 100000 in
set_option maxHeartbeats 4000000 in
theorem mwithinF (n a b : Int) (w : World) : Calls Tryz.prog 51 #[.int .i64 n, .int .i64 a, .int .i64 b] w (Back (.bool (decide (a ≤ n ∧ n ≤ b))) w) := by
 refine J_enter (fun _ => False) (vs := [.int .i64 n, .int .i64 a, .int .i64 b]) (k := 12) (l := [(0, .int .i64 n), (1, .int .i64 a), (2, .int .i64 b)]) Tryz.func51 rfl rfl Tryz.ntmps51 rfl rfl (Wd.start _) ?_
 refine s10 ?_
 refine JL_dec (fun h9 => ?_) (fun h9 => ?_)
 ·refine s4 ?_
  refine JL_dec (fun h13 => ?_) (fun h13 => ?_)
  ·refine s5 ?_
   refine JR_one rfl (rr_tmp rfl) ?_
   intro w' hw
   exact ⟨by congr 2; exact (by first | exact (decide_eq_true (by omega)).symm | exact (decide_eq_false (by omega)).symm), hw.bel⟩
  ·refine s5 ?_
   refine JR_one rfl (rr_tmp rfl) ?_
   intro w' hw
   exact ⟨by congr 2; exact (by first | exact (decide_eq_true (by omega)).symm | exact (decide_eq_false (by omega)).symm), hw.bel⟩
 ·refine s9 ?_
  refine JR_one rfl (rr_tmp rfl) ?_
  intro w' hw
  exact ⟨by congr 2; exact (by first | exact (decide_eq_true (by omega)).symm | exact (decide_eq_false (by omega)).symm), hw.bel⟩
set_option maxRecDepth 100000 in
set_option maxHeartbeats 4000000 in
theorem right_any (r : Rdg) (n : Int) (w : World) (hn : 0 ≤ n ∧ n ≤ 1000) : Calls Tryz.prog 31 #[Rdv r, .int .i64 n] w (Back (.bool (rtB r n)) w) := by
 obtain ⟨ri, rl, rh⟩ := r
 refine J_enter (fun _ => False) (vs := [.agg #[.int .i64 ri, .int .i64 rl, .int .i64 rh], .int .i64 n]) (k := 20) (l := [(0, .agg #[.int .i64 ri, .int .i64 rl, .int .i64 rh]), (1, .int .i64 n)]) Tryz.func31 rfl rfl Tryz.ntmps31 rfl rfl (Wd.start _) ?_
 refine s2 ?_
 refine aW (oX [_, _, _]) (fun b2 hb2 => ?_)
 refine s9 ?_
 refine aCB (fun w hw => mwithin _ _ _ w) ?_
 refine JL_dec (fun h9 => ?_) (fun h9 => ?_)
 ·refine s5 ?_
  refine aCB (fun w hw => mwithinF _ _ _ w) ?_
  refine JL_dec (fun h15 => ?_) (fun h15 => ?_)
  ·refine s5 ?_
   refine JL_dec (fun h20 => ?_) (fun h20 => ?_)
   ·refine s5 ?_
    refine JR_one rfl (rr_tmp rfl) ?_
    intro w' hw
    exact ⟨by congr 2; unfold rtB; dsimp only; rw [decide_eq_true h9, decide_eq_true h15, decide_eq_true h20]; simp, hw.bel⟩
   ·refine s5 ?_
    refine JR_one rfl (rr_tmp rfl) ?_
    intro w' hw
    exact ⟨by congr 2; unfold rtB; dsimp only; rw [decide_eq_true h9, decide_eq_true h15, decide_eq_false h20]; simp, hw.bel⟩
  ·refine s10 ?_
   refine JR_one rfl (rr_tmp rfl) ?_
   intro w' hw
   exact ⟨by congr 2; unfold rtB; dsimp only; rw [decide_eq_true h9, decide_eq_false h15]; simp, hw.bel⟩
 ·refine s16 ?_
  refine JR_one rfl (rr_tmp rfl) ?_
  intro w' hw
  exact ⟨by congr 2; unfold rtB; dsimp only; rw [decide_eq_false h9]; simp, hw.bel⟩
set_option maxRecDepth 100000 in
set_option maxHeartbeats 4000000 in
theorem nearer_any (a b : Rdg) (w : World) : Calls Tryz.prog 32 #[Rdv a, Rdv b] w (Back (.int .i64 (nrr a b)) w) := by
 obtain ⟨ai, al, ah⟩ := a
 obtain ⟨bi, bl, bh⟩ := b
 refine J_enter (fun _ => False) (vs := [.agg #[.int .i64 ai, .int .i64 al, .int .i64 ah], .agg #[.int .i64 bi, .int .i64 bl, .int .i64 bh]]) (k := 15) (l := [(0, .agg #[.int .i64 ai, .int .i64 al, .int .i64 ah]), (1, .agg #[.int .i64 bi, .int .i64 bl, .int .i64 bh])]) Tryz.func32 rfl rfl Tryz.ntmps32 rfl rfl (Wd.start _) ?_
 refine s2 ?_
 refine aW (oX [_, _, _]) (fun b2 hb2 => ?_)
 refine aW (oX [_, _, _]) (fun b3 hb3 => ?_)
 refine s12 ?_
 refine JL_dec (fun h10 => ?_) (fun h10 => ?_)
 ·refine s5 ?_
  refine kJ [] ?_
  refine s7 ?_
  refine JR_one rfl (rr_tmp rfl) ?_
  intro w' hw
  exact ⟨by unfold nrr; dsimp only; rw [if_pos h10], hw.bel⟩
 ·refine s5 ?_
  refine kJ [(2, _), (3, _)] ?_
  refine s6 ?_
  refine JL_dec (fun h16 => ?_) (fun h16 => ?_)
  ·refine s5 ?_
   refine kJ [] ?_
   refine s7 ?_
   refine JR_one rfl (rr_tmp rfl) ?_
   intro w' hw
   exact ⟨by unfold nrr; dsimp only; rw [if_neg h10, if_pos h16], hw.bel⟩
  ·refine s8 ?_
   refine kJ [] ?_
   refine s5 ?_
   refine JR_one rfl (rr_tmp rfl) ?_
   intro w' hw
   exact ⟨by unfold nrr; dsimp only; rw [if_neg h10, if_neg h16], hw.bel⟩
set_option maxRecDepth 100000 in
set_option maxHeartbeats 4000000 in
theorem house_any (a : Rdg) (w : World) : Calls Tryz.prog 33 #[Rdv a] w (Back (.int .i64 (hou a)) w) := by
 obtain ⟨ai, al, ah⟩ := a
 refine J_enter (fun _ => False) (vs := [.agg #[.int .i64 ai, .int .i64 al, .int .i64 ah]]) (k := 10) (l := [(0, .agg #[.int .i64 ai, .int .i64 al, .int .i64 ah])]) Tryz.func33 rfl rfl Tryz.ntmps33 rfl rfl (Wd.start _) ?_
 refine s2 ?_
 refine aW (oX [_, _, _]) (fun b1 hb1 => ?_)
 refine s10 ?_
 refine JL_dec (fun h6 => ?_) (fun h6 => ?_)
 ·refine s5 ?_
  refine kJ [] ?_
  refine s7 ?_
  refine JR_one rfl (rr_tmp rfl) ?_
  intro w' hw
  exact ⟨by unfold hou; dsimp only; rw [if_pos h6], hw.bel⟩
 ·refine s5 ?_
  refine kJ [(1, _)] ?_
  refine s4 ?_
  refine JL_dec (fun h10 => ?_) (fun h10 => ?_)
  ·refine s5 ?_
   refine kJ [] ?_
   refine s7 ?_
   refine JR_one rfl (rr_tmp rfl) ?_
   intro w' hw
   exact ⟨by unfold hou; dsimp only; rw [if_neg h6, if_pos h10], hw.bel⟩
  ·refine s8 ?_
   refine kJ [] ?_
   refine s5 ?_
   refine JR_one rfl (rr_tmp rfl) ?_
   intro w' hw
   exact ⟨by unfold hou; dsimp only; rw [if_neg h6, if_neg h10], hw.bel⟩
/-- Which of two is nearer; the error. -/
def nerF (a b : Rdg) : Int × Int := if rtB a 16 = true ∧ rtB b 16 = true then (nrr a b, 0) else (0, 2)
def hosF (a : Rdg) : Int × Int := if rtB a 16 = true then (hou a, 0) else (0, 2)
set_option maxRecDepth 100000 in
set_option maxHeartbeats 4000000 in
theorem Nearer_any (a b : Rdg) (w : World) : Calls Tryz.prog 13 #[Rdv a, Rdv b] w (Back (.tuple #[.int .i64 (nerF a b).1, .int .i64 (nerF a b).2]) w) := by
 obtain ⟨ai, al, ah⟩ := a
 obtain ⟨bi, bl, bh⟩ := b
 refine J_enter (fun _ => False) (vs := [.agg #[.int .i64 ai, .int .i64 al, .int .i64 ah], .agg #[.int .i64 bi, .int .i64 bl, .int .i64 bh]]) (k := 15) (l := [(0, .agg #[.int .i64 ai, .int .i64 al, .int .i64 ah]), (1, .agg #[.int .i64 bi, .int .i64 bl, .int .i64 bh])]) Tryz.func13 rfl rfl Tryz.ntmps13 rfl rfl (Wd.start _) ?_
 refine s2 ?_
 refine aW (oX [_, _, _]) (fun b2 hb2 => ?_)
 refine aW (oX [_, _, _]) (fun b3 hb3 => ?_)
 refine s6 ?_
 refine kJ [(2, _), (3, _)] ?_
 refine s2 ?_
 refine aCB (fun w hw => right_any ⟨_, _, _⟩ 16 w (by decide)) ?_
 refine JL_bool (fun h7 => ?_) (fun h7 => ?_)
 ·refine s3 ?_
  refine aCB (fun w hw => right_any ⟨_, _, _⟩ 16 w (by decide)) ?_
  refine JL_bool (fun h11 => ?_) (fun h11 => ?_)
  ·refine s8 ?_
   refine kJ [(2, _), (3, _)] ?_
   refine s3 ?_
   refine aCB (fun w hw => nearer_any ⟨_, _, _⟩ ⟨_, _, _⟩ w) ?_
   refine s5 ?_
   refine JR_two rfl (rr_tmp rfl) (rr_tmp rfl) ?_
   intro w' hw
   exact ⟨by unfold nerF; rw [if_pos ⟨h7, h11⟩], hw.bel⟩
  ·refine s6 ?_
   refine kJ [] ?_
   refine s7 ?_
   refine JR_two rfl (rr_tmp rfl) (rr_tmp rfl) ?_
   intro w' hw
   exact ⟨by unfold nerF; rw [if_neg (fun h => by rw [h.2] at h11; cases h11)], hw.bel⟩
 ·refine s10 ?_
  refine kJ [] ?_
  refine s7 ?_
  refine JR_two rfl (rr_tmp rfl) (rr_tmp rfl) ?_
  intro w' hw
  exact ⟨by unfold nerF; rw [if_neg (fun h => by rw [h.1] at h7; cases h7)], hw.bel⟩
set_option maxRecDepth 100000 in
set_option maxHeartbeats 4000000 in
theorem House_any (a : Rdg) (w : World) : Calls Tryz.prog 14 #[Rdv a] w (Back (.tuple #[.int .i64 (hosF a).1, .int .i64 (hosF a).2]) w) := by
 obtain ⟨ai, al, ah⟩ := a
 refine J_enter (fun _ => False) (vs := [.agg #[.int .i64 ai, .int .i64 al, .int .i64 ah]]) (k := 8) (l := [(0, .agg #[.int .i64 ai, .int .i64 al, .int .i64 ah])]) Tryz.func14 rfl rfl Tryz.ntmps14 rfl rfl (Wd.start _) ?_
 refine s2 ?_
 refine aW (oX [_, _, _]) (fun b1 hb1 => ?_)
 refine s8 ?_
 refine aCB (fun w hw => right_any ⟨_, _, _⟩ 16 w (by decide)) ?_
 refine JL_bool (fun h5 => ?_) (fun h5 => ?_)
 ·refine s7 ?_
  refine kJ [(1, _)] ?_
  refine s2 ?_
  refine aCB (fun w hw => house_any ⟨_, _, _⟩ w) ?_
  refine s5 ?_
  refine JR_two rfl (rr_tmp rfl) (rr_tmp rfl) ?_
  intro w' hw
  exact ⟨by unfold hosF; rw [if_pos h5], hw.bel⟩
 ·refine s5 ?_
  refine kJ [] ?_
  refine s7 ?_
  refine JR_two rfl (rr_tmp rfl) (rr_tmp rfl) ?_
  intro w' hw
  exact ⟨by unfold hosF; rw [if_neg (by rw [h5]; simp)], hw.bel⟩
set_option maxRecDepth 100000 in
set_option maxHeartbeats 4000000 in
theorem least_any (f : FuncId) (g : Rdg → Int) (l : List Rdg) (z : Int) (v : Value) (w : World) [hf : Cf Tryz.prog f] (hcl : ∀ x ∈ l, ∀ W, Below w.heap.size w W → Calls Tryz.prog f (#[] ++ #[Rdv x] ++ #[]) W (Back (.int .i64 (g x)) W)) (hrow : Arr 3 eRd w v l) : Calls Tryz.prog 86 #[v, .int .i64 z, .func (.func f) #[] #[]] w (Back (.int .i64 (l.foldl (fun a r => min a (g r)) z)) w) := by
 have hrow0 := hrow
 obtain ⟨A, cap, rfl, -, ⟨hl9, -⟩, hA⟩ := hrow
 refine J_enter (fun _ => False) (vs := [.slice A l.length cap, .int .i64 z, .func (.func f) #[] #[]]) (k := 19) (l := [(0, .slice A l.length cap), (1, .int .i64 z), (2, .func (.func f) #[] #[])]) Tryz.func86 rfl rfl Tryz.ntmps86 rfl rfl (Wd.start _) ?_
 refine s14 ?_
 refine xL (T := Nat) (fun k => k ≤ l.length) (fun k => [(1, .int .i64 ((l.take k).foldl (fun a r => min a (g r)) z)), (2, .func (.func f) #[] #[]), (9, .slice A l.length cap), (10, .int .i64 (l.length : Nat)), (11, .int .i64 (k : Nat))]) (fun k => []) (fun k => l.length - k) 0 (Nat.zero_le _) ?_
 rintro k hk
 refine s3 ?_
 refine JL_dec (fun h12 => ?_) (fun h12 => ?_)
 ·refine s9 ?_
  have hltx : k < l.length := by omega
  obtain ⟨bx, qx, rfl, hh⟩ := hA (by intro e; subst e; simp at hltx)
  obtain ⟨⟨xi, xl, xh⟩, hx⟩ : ∃ y, l[k]'hltx = y := ⟨_, rfl⟩
  have hmx : (⟨xi, xl, xh⟩ : Rdg) ∈ l := by rw [← hx]; exact List.getElem_mem _
  refine s2 ?_
  refine aV (vHoldA (cs := [.int .i64 xi, .int .i64 xl, .int .i64 xh]) ERd rfl rfl (fun h => h) hh hltx (by rw [hx]; rfl)) ?_
  refine aW oA (fun b8 hb8 => ?_)
  refine s7 ?_
  refine aW (ow_callB (ec_val rfl rfl rfl Cf.h) rfl rfl (fun w hw => hcl (⟨xi, xl, xh⟩ : Rdg) hmx w hw.bel)) (fun _ _ => ?_)
  refine s5 ?_
  refine kJ [(1, _), (2, _), (9, _), (10, _), (11, _)] ?_
  refine s4 ?_
  have hs : (l.take (k + 1)).foldl (fun a r => min a (g r)) z = min ((l.take k).foldl (fun a r => min a (g r)) z) (g (⟨xi, xl, xh⟩ : Rdg)) := by rw [List.take_succ_eq_append_getElem hltx, hx, List.foldl_append]; rfl
  exact xR (k + 1) (by omega) (by omega) (hl := ⟨(by rw [hs]; rfl), rfl, rfl, rfl, (congrArg some (by go_num)), trivial⟩)
 ·refine s10 ?_
  refine kJ [(1, _)] ?_
  refine s6 ?_
  refine JR_one rfl (rr_tmp rfl) ?_
  intro w' hw
  obtain rfl : k = l.length := by omega
  rw [List.take_length]
  exact ⟨rfl, hw.bel⟩
set_option maxRecDepth 100000 in
set_option maxHeartbeats 4000000 in
theorem nrs1_any (r : Rdg) (w : World) : Calls Tryz.prog 87 (#[] ++ #[Rdv r] ++ #[]) w (Back (.int .i64 r.lo) w) := by
 obtain ⟨ri, rl, rh⟩ := r
 refine J_enter (fun _ => False) (vs := [.agg #[.int .i64 ri, .int .i64 rl, .int .i64 rh]]) (k := 4) (l := [(0, .agg #[.int .i64 ri, .int .i64 rl, .int .i64 rh])]) Tryz.func87 rfl rfl Tryz.ntmps87 rfl rfl (Wd.start _) ?_
 refine s2 ?_
 refine aW (oX [_, _, _]) (fun b1 hb1 => ?_)
 refine s11 ?_
 refine JR_one rfl (rr_tmp rfl) ?_
 intro w' hw
 exact ⟨rfl, hw.bel⟩
instance cfi_87 : Cf Tryz.prog 87 := ⟨fun _ _ => by kernel_rfl⟩
set_option maxRecDepth 100000 in
set_option maxHeartbeats 4000000 in
theorem nrs2_any (r : Rdg) (w : World) : Calls Tryz.prog 88 (#[] ++ #[Rdv r] ++ #[]) w (Back (.int .i64 r.hi) w) := by
 obtain ⟨ri, rl, rh⟩ := r
 refine J_enter (fun _ => False) (vs := [.agg #[.int .i64 ri, .int .i64 rl, .int .i64 rh]]) (k := 4) (l := [(0, .agg #[.int .i64 ri, .int .i64 rl, .int .i64 rh])]) Tryz.func88 rfl rfl Tryz.ntmps88 rfl rfl (Wd.start _) ?_
 refine s2 ?_
 refine aW (oX [_, _, _]) (fun b1 hb1 => ?_)
 refine s11 ?_
 refine JR_one rfl (rr_tmp rfl) ?_
 intro w' hw
 exact ⟨rfl, hw.bel⟩
instance cfi_88 : Cf Tryz.prog 88 := ⟨fun _ _ => by kernel_rfl⟩
set_option maxRecDepth 100000 in
set_option maxHeartbeats 4000000 in
theorem nearS_any (l : List Rdg) (v : Value) (w : World) (hrow : Arr 3 eRd w v l) : Calls Tryz.prog 56 #[v] w (Back (.tuple #[.int .i64 (nrL l), .int .i64 (nrH l)]) w) := by
 have hrow0 := hrow
 obtain ⟨A, cap, rfl, -, ⟨hl9, -⟩, hA⟩ := hrow
 refine J_enter (fun _ => False) (vs := [.slice A l.length cap]) (k := 9) (l := [(0, .slice A l.length cap)]) Tryz.func56 rfl rfl Tryz.ntmps56 rfl rfl (Wd.start _) ?_
 refine s9 ?_
 refine aCB (fun w hw => least_any 87 (fun r => r.lo) l 129368065 _ w (fun x _ W _ => nrs1_any x W) (hrow0.up ERd hw.bel)) ?_
 refine s6 ?_
 refine aCB (fun w hw => least_any 88 (fun r => r.hi) l 129368064 _ w (fun x _ W _ => nrs2_any x W) (hrow0.up ERd hw.bel)) ?_
 refine s4 ?_
 refine kJ [(2, _), (3, _)] ?_
 refine s8 ?_
 refine JR_two rfl (rr_tmp rfl) (rr_tmp rfl) ?_
 intro w' hw
 exact ⟨rfl, hw.bel⟩
set_option maxRecDepth 100000 in
set_option maxHeartbeats 4000000 in
theorem aw1_any (r : Rdg) (w : World) : Calls Tryz.prog 90 (#[] ++ #[Rdv r] ++ #[]) w (Back (.bool (decide (r.hi ≤ 129368064))) w) := by
 obtain ⟨ri, rl, rh⟩ := r
 refine J_enter (fun _ => False) (vs := [.agg #[.int .i64 ri, .int .i64 rl, .int .i64 rh]]) (k := 5) (l := [(0, .agg #[.int .i64 ri, .int .i64 rl, .int .i64 rh])]) Tryz.func90 rfl rfl Tryz.ntmps90 rfl rfl (Wd.start _) ?_
 refine s2 ?_
 refine aW (oX [_, _, _]) (fun b1 hb1 => ?_)
 refine s12 ?_
 refine JR_one rfl (rr_tmp rfl) ?_
 intro w' hw
 exact ⟨rfl, hw.bel⟩
instance cfi_90 : Cf Tryz.prog 90 := ⟨fun _ _ => by kernel_rfl⟩
set_option maxRecDepth 100000 in
set_option maxHeartbeats 4000000 in
theorem away_any (l : List Rdg) (v : Value) (w : World) (hrow : Arr 3 eRd w v l) : Calls Tryz.prog 57 #[v] w (Back (.bool (awB l)) w) := by
 have hrow0 := hrow
 obtain ⟨A, cap, rfl, -, ⟨hl9, -⟩, hA⟩ := hrow
 refine J_enter (fun _ => False) (vs := [.slice A l.length cap]) (k := 5) (l := [(0, .slice A l.length cap)]) Tryz.func57 rfl rfl Tryz.ntmps57 rfl rfl (Wd.start _) ?_
 refine s8 ?_
 refine aCB (fun w hw => ContainsFuncSd 90 #[] (fun r => decide (r.hi ≤ 129368064)) l _ w (fun x _ W _ => aw1_any x W) (hrow0.up ERd hw.bel)) ?_
 refine JL_bool (fun h4 => ?_) (fun h4 => ?_)
 ·refine s5 ?_
  refine JR_one rfl (rr_tmp rfl) ?_
  intro w' hw
  exact ⟨by unfold awB; rw [h4], hw.bel⟩
 ·refine s5 ?_
  refine JR_one rfl (rr_tmp rfl) ?_
  intro w' hw
  exact ⟨by unfold awB; rw [h4], hw.bel⟩
end Go.Proofs.YtmcpnoailbmkkaaGreat
/-
  DERIVED: THE SHELF's CONTRACTS AT THIS DUMP, IN PLAIN WORDS (tools/lay-plain.mjs out of 'YtmcpnoailbmkkaaGreatShb.lean', which tools/lay-shelf.mjs wrote): THE SAME DECLARATIONS UNDER THE SAME NAMES: 'import', 'namespace', 'open', 'def', 'theorem' AND NOTHING ELSE: no command of the shelf's: FOR A HAND-IN. Each laying: the table of numbers ('.._ren') and one theorem, a field a fact of the dump's own or the kernel's comparison; each contract: ONE APPLICATION.
-/
namespace Go.Proofs
open Go.Shelf
def Tryz.lays134_ren : Go.Shelf.Ren := ⟨fun | 134 => 131 | 129 => 101 | n => n, fun | 53 => 92 | 3 => 3 | 4 => 4 | 46 => 121 | 5 => 5 | 9 => 9 | n => n, fun | n => n⟩
theorem Tryz.lays134 : Go.Proofs.Lays.n134 Tryz.prog Tryz.lays134_ren := {
  mixed := by kernel_rfl
  f129 := Tryz.func101.trans (congrArg some (by kernel_rfl))
  f134 := Tryz.func131.trans (congrArg some (by kernel_rfl))
  t3 := Tryz.underlying3
  a3 := Tryz.isAgg3
  z3 := Tryz.sizeOf3
  v3 := Tryz.zeroValue3
  t4 := Tryz.underlying4
  a4 := Tryz.isAgg4
  z4 := Tryz.sizeOf4
  v4 := Tryz.zeroValue4
  t5 := Tryz.underlying5
  a5 := Tryz.isAgg5
  z5 := Tryz.sizeOf5
  v5 := Tryz.zeroValue5
  t9 := Tryz.underlying9
  a9 := Tryz.isAgg9
  z9 := Tryz.sizeOf9
  v9 := Tryz.zeroValue9
  t46 := Tryz.underlying121
  a46 := Tryz.isAgg121
  z46 := Tryz.sizeOf121
  v46 := Tryz.zeroValue121
  t53 := Tryz.underlying92
  a53 := Tryz.isAgg92
  z53 := Tryz.sizeOf92
  v53 := Tryz.zeroValue92 }
/-- bits.LeadingZeros64: "LeadingZeros64 returns the number of leading zero bits in x; the result is 64 for x == 0.": IT RETURNS '64 - Lib.bitLen x'; the world is as it was. ITS CALLEE bits.Len64 IS MET BY ITS OWN CONTRACT OFF THE SHELF (lay that first): entered in place it sends the kernel out of memory. (LAID: no walk: one application.) -/
theorem Tryz.bits_LeadingZeros64 (x : Int) (w : World) (h0 : 0 ≤ x) (h1 : x ≤ 18446744073709551615) :
    Calls Tryz.prog 131 #[.int .u64 x] w fun e w' => e = .returned (.int .i64 (64 - (Lib.bitLen x.toNat : Int))) ∧ w' = w := Any.bits_LeadingZeros64 Tryz.lays134 x w h0 h1
def Tryz.lays264_ren : Go.Shelf.Ren := ⟨fun | 264 => 71 | n => n, fun | 53 => 92 | 46 => 121 | n => n, fun | n => n⟩
theorem Tryz.lays264 : Go.Proofs.Lays.n264 Tryz.prog Tryz.lays264_ren := {
  mixed := by kernel_rfl
  f264 := Tryz.func71.trans (congrArg some (by kernel_rfl))
  t46 := Tryz.underlying121
  a46 := Tryz.isAgg121
  z46 := Tryz.sizeOf121
  v46 := Tryz.zeroValue121
  t53 := Tryz.underlying92
  a53 := Tryz.isAgg92
  z53 := Tryz.sizeOf92
  v53 := Tryz.zeroValue92 }
open Go.RowKit Go.Lib in
theorem Tryz.bits_Mul64 (x y : Nat) (hx : x < 18446744073709551616) (hy : y < 18446744073709551616) (w : World) :
    Calls Tryz.prog 71 #[.int .u64 x, .int .u64 y] w fun e w' => e = .returned (.tuple #[.int .u64 ((x * y / 18446744073709551616 : Nat) : Int), .int .u64 ((x * y % 18446744073709551616 : Nat) : Int)]) ∧ w' = w := Any.bits_Mul64 Tryz.lays264 x y hx hy w
end Go.Proofs
