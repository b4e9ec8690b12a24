/- Layers of the proofs, joined: Mj Mk Os. -/
import Derived.Test.YtmcpnoailbmkkaaGreatPk6
import Derived.Test.YtmcpnoailbmkkaaGreatRows
import Derived.ProofKit
import Derived.OpenShut
import Derived.Lib.SmallJoins
/- Layers 1, 3: what sound() asks; the nearest stones. -/
namespace Go.Proofs.YtmcpnoailbmkkaaGreat
open Go Go.RowKit Go.Proofs
attribute [local irreducible] J JQ JL JA JD

theorem cell_arr {α : Type} {k : Nat} {enc : α → List Value} (E : Enc k enc) {w : World} {b ty : Nat} {vs : List α} (h : (cellB b (vs.flatMap enc) ty).holds w) (hn : vs.length ≤ 1000) : Arr k enc w (.slice (some ⟨b, 0, none⟩) vs.length vs.length) vs := by
 have h' : w.heap[b]? = some (.cells (vs.flatMap enc).toArray ty (0, 0)) := h
 refine ⟨_, _, rfl, Nat.le_refl _, ⟨by omega, by unfold maxLen; omega⟩, fun _ => ⟨b, 0, rfl, fun j hj i hi => ?_⟩⟩
 have := flat_get E hj i hi
 simp only [World.cell?, h']
 simp [this]
namespace Fx
theorem nw_of {n d : Int} {neg : Bool} {k : Nat} (h : n / d < 18446744073709551615) : NW n d neg k := fun _ => by have := b2i_le (bump k (n % d) d neg); omega
theorem isq_v {A n : Int} (h0 : 0 ≤ A) (h1 : 0 ≤ n) (h2 : n * n ≤ A) (h3 : A < (n + 1) * (n + 1)) : isq A = n := IsRoot.unique (isq_spec h0) ⟨h1, h2, h3⟩
end Fx
theorem root_two (w : World) : Calls Tryz.prog 15 #[.int .i64 131072, .int .i64 1] w (Back (.tuple #[.int .i64 92681, .int .i64 0]) w) := by
 have e : Fx.rootR 131072 1 = .ok 92681 := by
  unfold Fx.rootR Fx.rooR
  rw [show (131072 : Int) * 65536 = 8589934592 by decide, Fx.isq_v (A := 8589934592) (n := 92681) (by decide) (by decide) (by decide) (by decide)]
  kernel_rfl
 have := Fx.Root_any 131072 1 w
 rw [e] at this
 exact this
theorem scale_1 (w : World) : Calls Tryz.prog 76 #[.int .i64 500, .int .i64 100, .int .i64 1000, .int .i64 3] w (Back (.tuple #[.int .i64 50, .int .i64 0]) w) := by
 have e : Fx.scaleR 500 100 1000 3 = .ok 50 := by kernel_rfl
 have := Fx.Scale_any 500 100 1000 3 w (fun _ => Fx.nw_of (by decide +kernel))
 rw [e] at this
 exact this
theorem scale_2 (w : World) : Calls Tryz.prog 76 #[.int .i64 950, .int .i64 1000000, .int .i64 1000000, .int .i64 3] w (Back (.tuple #[.int .i64 950, .int .i64 0]) w) := by
 have e : Fx.scaleR 950 1000000 1000000 3 = .ok 950 := by kernel_rfl
 have := Fx.Scale_any 950 1000000 1000000 3 w (fun _ => Fx.nw_of (by decide +kernel))
 rw [e] at this
 exact this
set_option maxRecDepth 100000 in
set_option maxHeartbeats 4000000 in
theorem iwithin (n a b : Int) (w : World) : Calls Tryz.prog 105 #[.int .i64 n, .int .i64 a, .int .i64 b] w (Back (.bool (decide (a ≤ n ∧ n ≤ b))) w) := by
 refine J_enter (fun _ => False) (vs := [.int .i64 n, .int .i64 a, .int .i64 b]) (k := 12) (l := [(0, .int .i64 n), (1, .int .i64 a), (2, .int .i64 b)]) Tryz.func105 rfl rfl Tryz.ntmps105 rfl rfl (Wd.start _) ?_
 refine s10 ?_
 refine JL_dec (fun h9 => ?_) (fun h9 => ?_)
 ·refine s4 ?_
  refine JL_dec (fun h13 => ?_) (fun h13 => ?_)
  ·refine s5 ?_
   refine JR_one rfl (rr_tmp rfl) ?_
   intro w' hw
   exact ⟨by congr 2; exact (by first | exact (decide_eq_true (by omega)).symm | exact (decide_eq_false (by omega)).symm), hw.bel⟩
  ·refine s5 ?_
   refine JR_one rfl (rr_tmp rfl) ?_
   intro w' hw
   exact ⟨by congr 2; exact (by first | exact (decide_eq_true (by omega)).symm | exact (decide_eq_false (by omega)).symm), hw.bel⟩
 ·refine s9 ?_
  refine JR_one rfl (rr_tmp rfl) ?_
  intro w' hw
  exact ⟨by congr 2; exact (by first | exact (decide_eq_true (by omega)).symm | exact (decide_eq_false (by omega)).symm), hw.bel⟩
set_option maxRecDepth 100000 in
set_option maxHeartbeats 4000000 in
theorem iwithinF (n a b : Int) (w : World) : Calls Tryz.prog 106 #[.int .i64 n, .int .i64 a, .int .i64 b] w (Back (.bool (decide (a ≤ n ∧ n ≤ b))) w) := by
 refine J_enter (fun _ => False) (vs := [.int .i64 n, .int .i64 a, .int .i64 b]) (k := 12) (l := [(0, .int .i64 n), (1, .int .i64 a), (2, .int .i64 b)]) Tryz.func106 rfl rfl Tryz.ntmps106 rfl rfl (Wd.start _) ?_
 refine s10 ?_
 refine JL_dec (fun h9 => ?_) (fun h9 => ?_)
 ·refine s4 ?_
  refine JL_dec (fun h13 => ?_) (fun h13 => ?_)
  ·refine s5 ?_
   refine JR_one rfl (rr_tmp rfl) ?_
   intro w' hw
   exact ⟨by congr 2; exact (by first | exact (decide_eq_true (by omega)).symm | exact (decide_eq_false (by omega)).symm), hw.bel⟩
  ·refine s5 ?_
   refine JR_one rfl (rr_tmp rfl) ?_
   intro w' hw
   exact ⟨by congr 2; exact (by first | exact (decide_eq_true (by omega)).symm | exact (decide_eq_false (by omega)).symm), hw.bel⟩
 ·refine s9 ?_
  refine JR_one rfl (rr_tmp rfl) ?_
  intro w' hw
  exact ⟨by congr 2; exact (by first | exact (decide_eq_true (by omega)).symm | exact (decide_eq_false (by omega)).symm), hw.bel⟩
def eSq (p : Int × Int) : List Value := [.int .i64 p.1, .int .i64 p.2]
theorem ESq : Enc 2 eSq := ⟨fun _ => rfl, fun x v h => by
 simp [eSq] at h
 rcases h with rfl | rfl <;> rfl⟩
abbrev Sqv (p : Int × Int) : Value := .agg #[.int .i64 p.1, .int .i64 p.2]
/-- A predicate, as a closure. -/
def PrSq (f : FuncId) (caps : Array Value) (p : (Int × Int) → Bool) (l : List (Int × Int)) (w0 : World) : Prop := ∀ x ∈ l, ∀ W, Below w0.heap.size w0 W → Calls Tryz.prog f (#[] ++ #[Sqv x] ++ caps) W (Back (.bool (p x)) W)
theorem PrSq.up {f : FuncId} {caps : Array Value} {p : (Int × Int) → Bool} {l : List (Int × Int)} {w w1 : World} (h : PrSq f caps p l w) (hb : Below w.heap.size w w1) : PrSq f caps p l w1 := fun x hx W hW => h x hx W (hb.trans (hW.mono hb.size))
set_option maxRecDepth 100000 in
set_option maxHeartbeats 4000000 in
theorem IndexFuncSq (f : FuncId) (caps : Array Value) (p : (Int × Int) → Bool) (l : List (Int × Int)) (v : Value) (w : World) [hf : Cf Tryz.prog f] (hcl : PrSq f caps p l w) (hrow : Arr 2 eSq w v l) : Calls Tryz.prog 125 #[v, .func (.func f) #[] caps] w (Back (.int .i64 (fidx p l)) w) := by
 have hrow0 := hrow
 obtain ⟨A, cap, rfl, -, ⟨hl9, -⟩, hA⟩ := hrow
 refine J_enter (fun _ => False) (vs := [.slice A l.length cap, .func (.func f) #[] caps]) (k := 17) (l := [(0, .slice A l.length cap), (1, .func (.func f) #[] caps)]) Tryz.func125 rfl rfl Tryz.ntmps125 rfl rfl (Wd.start _) ?_
 refine s14 ?_
 refine xL (T := Nat) (fun k => k ≤ l.length ∧ ∀ j (hj : j < l.length), j < k → p (l[j]'hj) = false) (fun k => [(0, .slice A l.length cap), (1, .func (.func f) #[] caps), (7, .int .i64 (l.length : Nat)), (8, .int .i64 (k : Nat))]) (fun k => []) (fun k => l.length - k) 0 ⟨Nat.zero_le _, fun j _ h => absurd h (Nat.not_lt_zero _)⟩ ?_
 rintro k ⟨hk, hall⟩
 refine s3 ?_
 refine JL_dec (fun h9 => ?_) (fun h9 => ?_)
 ·refine s15 ?_
  have hltx : k < l.length := by omega
  obtain ⟨bx, qx, rfl, hh⟩ := hA (by intro e; subst e; simp at hltx)
  obtain ⟨⟨xa, xb⟩, hx⟩ : ∃ y, l[k]'hltx = y := ⟨_, rfl⟩
  have hmx : ((xa, xb) : Int × Int) ∈ l := by rw [← hx]; exact List.getElem_mem _
  refine s5 ?_
  refine aV (vHoldA (cs := [.int .i64 xa, .int .i64 xb]) ESq rfl rfl (fun h => h) hh hltx (by rw [hx]; rfl)) ?_
  refine aW (ow_callB (ec_val rfl rfl rfl Cf.h) rfl rfl (fun w hw => hcl _ hmx w hw.bel)) (fun _ _ => ?_)
  refine JL_bool (fun h16 => ?_) (fun h16 => ?_)
  ·refine s4 ?_
   refine kJ [(5, _)] ?_
   refine s11 ?_
   refine JR_one rfl (rr_tmp rfl) ?_
   intro w' hw
   exact ⟨by rw [fidx_at hltx (by rw [hx]; exact h16) (fun j hj => hall j (by omega) hj)], hw.bel⟩
  ·refine s6 ?_
   refine kJ [(0, _), (1, _), (7, _), (8, _)] ?_
   refine s4 ?_
   have hn : ∀ j (hj : j < l.length), j < k + 1 → p (l[j]'hj) = false := fun j hj hjk => by
    rcases Nat.lt_or_ge j k with h | h
    ·exact hall j hj h
    ·obtain rfl : j = k := by omega
     rw [hx]; exact h16
   exact xR (k + 1) ⟨by omega, hn⟩ (by omega) (hl := ⟨rfl, rfl, rfl, (congrArg some (by go_num)), trivial⟩)
 ·refine s10 ?_
  refine kJ [] ?_
  refine s5 ?_
  refine JR_one rfl (rr_tmp rfl) ?_
  intro w' hw
  exact ⟨by rw [fidx_none (fun j hj => hall j hj (by omega))], hw.bel⟩
set_option maxRecDepth 100000 in
set_option maxHeartbeats 4000000 in
theorem ContainsFuncSq (f : FuncId) (caps : Array Value) (p : (Int × Int) → Bool) (l : List (Int × Int)) (v : Value) (w : World) [hf : Cf Tryz.prog f] (hcl : PrSq f caps p l w) (hrow : Arr 2 eSq w v l) : Calls Tryz.prog 108 #[v, .func (.func f) #[] caps] w (Back (.bool (l.any p)) w) := by
 have hrow0 := hrow
 obtain ⟨A, cap, rfl, -, ⟨hl9, -⟩, hA⟩ := hrow
 refine J_enter (fun _ => False) (vs := [.slice A l.length cap, .func (.func f) #[] caps]) (k := 7) (l := [(0, .slice A l.length cap), (1, .func (.func f) #[] caps)]) Tryz.func108 rfl rfl Tryz.ntmps108 rfl rfl (Wd.start _) ?_
 refine s9 ?_
 refine aCB (fun w hw => IndexFuncSq f caps p l _ w (hcl.up hw.bel) (hrow0.up ESq hw.bel)) ?_
 refine s5 ?_
 refine JR_one rfl (rr_tmp rfl) ?_
 intro w' hw
 exact ⟨by rw [fidxAny], hw.bel⟩
instance cfi_109 : Cf Tryz.prog 109 := ⟨fun _ _ => by kernel_rfl⟩
instance cfi_104 : Cf Tryz.prog 104 := ⟨fun _ _ => by kernel_rfl⟩
set_option maxRecDepth 100000 in
set_option maxHeartbeats 4000000 in
theorem pl1_any (w : World) : Calls Tryz.prog 109 (#[] ++ #[.agg #[.int .i64 0, .int .i64 0]] ++ #[]) w (Back (.bool false) w) := by
 refine J_enter (fun _ => False) (vs := [.agg #[.int .i64 0, .int .i64 0]]) (k := 12) (l := [(0, .agg #[.int .i64 0, .int .i64 0])]) Tryz.func109 rfl rfl Tryz.ntmps109 rfl rfl (Wd.start _) ?_
 refine s2 ?_
 refine aW (oX [_, _]) (fun b1 hb1 => ?_)
 refine s7 ?_
 refine aCB (fun w hw => iwithinF _ _ _ w) ?_
 refine aDecT ?_ (by decide)
 refine s4 ?_
 refine aCB (fun w hw => iwithinF _ _ _ w) ?_
 refine aDecT ?_ (by decide)
 refine s6 ?_
 refine JR_one rfl (rr_tmp rfl) ?_
 intro w' hw
 exact ⟨rfl, hw.bel⟩
set_option maxRecDepth 100000 in
set_option maxHeartbeats 4000000 in
theorem placed_0 (b q c : Nat) (w : World) (hrow : Arr 2 eSq w (.slice (some ⟨b, q, none⟩) 1 c) [(0, 0)]) : Calls Tryz.prog 74 #[.slice (some ⟨b, q, none⟩) 1 c] w (Back (.bool true) w) := by
 refine J_enter (fun _ => False) (vs := [.slice (some ⟨b, q, none⟩) 1 c]) (k := 5) (l := [(0, .slice (some ⟨b, q, none⟩) 1 c)]) Tryz.func74 rfl rfl Tryz.ntmps74 rfl rfl (Wd.start _) ?_
 refine s8 ?_
 refine aCB (fun w hw => (ContainsFuncSq 109 #[] (fun _ => false) [(0, 0)] _ w (fun x hx W _ => by rw [show x = (0, 0) by simpa using hx]; exact pl1_any W) (hrow.up ESq hw.bel)).mono (fun _ _ h => h)) ?_
 refine s5 ?_
 refine JR_one rfl (rr_tmp rfl) ?_
 intro w' hw
 exact ⟨rfl, hw.bel⟩
set_option maxRecDepth 100000 in
set_option maxHeartbeats 4000000 in
theorem ContainsFuncN (f : FuncId) (caps : Array Value) (p : Nat → Bool) (l : List Nat) (v : Value) (w : World) [hf : Cf Tryz.prog f] (hcl : PrN f caps p l w) (hrow : Arr 1 eN w v l) : Calls Tryz.prog 107 #[v, .func (.func f) #[] caps] w (Back (.bool (l.any p)) w) := by
 have hrow0 := hrow
 obtain ⟨A, cap, rfl, -, ⟨hl9, -⟩, hA⟩ := hrow
 refine J_enter (fun _ => False) (vs := [.slice A l.length cap, .func (.func f) #[] caps]) (k := 7) (l := [(0, .slice A l.length cap), (1, .func (.func f) #[] caps)]) Tryz.func107 rfl rfl Tryz.ntmps107 rfl rfl (Wd.start _) ?_
 refine s9 ?_
 refine aCB (fun w hw => IndexFuncN f caps p l _ w (fun x hx W hW => hcl x hx W (hw.bel.trans (hW.mono hw.bel.size))) (hrow0.up EN hw.bel)) ?_
 refine s5 ?_
 refine JR_one rfl (rr_tmp rfl) ?_
 intro w' hw
 exact ⟨by rw [fidxAny], hw.bel⟩
set_option maxRecDepth 100000 in
set_option maxHeartbeats 4000000 in
theorem ck1_any (n : Nat) (hn : n ≤ 1000) (w : World) : Calls Tryz.prog 104 (#[] ++ #[.int .i64 (n : Nat)] ++ #[]) w (Back (.bool false) w) := by
 refine J_enter (fun _ => False) (vs := [.int .i64 ((n : Nat) : Int)]) (k := 5) (l := [(0, .int .i64 ((n : Nat) : Int))]) Tryz.func104 rfl rfl Tryz.ntmps104 rfl rfl (Wd.start _) ?_
 refine s8 ?_
 refine aCB (fun w hw => iwithin _ _ _ w) ?_
 refine aDecT ?_ (by omega)
 refine s5 ?_
 refine JR_one rfl (rr_tmp rfl) ?_
 intro w' hw
 exact ⟨rfl, hw.bel⟩
set_option maxRecDepth 100000 in
set_option maxHeartbeats 4000000 in
theorem iCheck_0 (pb pq qb qq pc qc : Nat) (w : World) (hp : Arr 1 eN w (.slice (some ⟨pb, pq, none⟩) 1 pc) [100]) (hq : Arr 1 eN w (.slice (some ⟨qb, qq, none⟩) 1 qc) [0]) : Calls Tryz.prog 72 #[.agg #[.int .i64 0, .int .i64 0, .int .i64 10, .int .i64 1, .int .i64 1, .slice (some ⟨pb, pq, none⟩) 1 pc, .slice (some ⟨qb, qq, none⟩) 1 qc]] w (Back (.int .i64 0) w) := by
 refine J_enter (fun _ => False) (vs := [.agg #[.int .i64 0, .int .i64 0, .int .i64 10, .int .i64 1, .int .i64 1, .slice (some ⟨pb, pq, none⟩) 1 pc, .slice (some ⟨qb, qq, none⟩) 1 qc]]) (k := 48) (l := [(0, .agg #[.int .i64 0, .int .i64 0, .int .i64 10, .int .i64 1, .int .i64 1, .slice (some ⟨pb, pq, none⟩) 1 pc, .slice (some ⟨qb, qq, none⟩) 1 qc])]) Tryz.func72 rfl rfl Tryz.ntmps72 rfl rfl (Wd.start _) ?_
 refine s2 ?_
 refine aW (oX [_, _, _, _, _, _, _]) (fun b1 hb1 => ?_)
 refine s15 ?_
 refine aW (ow_sliceC (vs := [_, _]) (ty := 52) rfl rfl (by rfl) rfl rfl (fun _ => by kernel_rfl)) (fun b7 hb7 => ?_)
 refine aCB (fun w hw => placed_0 _ _ _ w (cell_arr ESq (vs := [(0, 0)]) (hw.ok (cellB b7 [.int .i64 0, .int .i64 0] 52) (by repeat constructor)).1 (by decide))) ?_
 refine s6 ?_
 refine kJ [(1, _), (3, _)] ?_
 refine s3 ?_
 refine aCB (fun w hw => iwithinF _ _ _ w) ?_
 refine aDecT ?_ (by decide)
 refine s6 ?_
 refine kJ [(1, _), (3, _)] ?_
 refine s3 ?_
 refine aCB (fun w hw => iwithin _ _ _ w) ?_
 refine aDecT ?_ (by decide)
 refine s5 ?_
 refine kJ [(1, _), (3, _)] ?_
 refine s3 ?_
 refine aCB (fun w hw => iwithin _ _ _ w) ?_
 refine aDecT ?_ (by decide)
 refine s7 ?_
 refine kJ [(1, _), (3, _)] ?_
 refine s8 ?_
 refine aP (pMul rfl rfl rfl) ?_
 refine s1 ?_
 refine aDecF ?_ (by decide)
 refine s5 ?_
 refine kJ [(1, _), (3, _)] ?_
 refine s8 ?_
 refine aP (pMul rfl rfl rfl) ?_
 refine s1 ?_
 refine aDecF ?_ (by decide)
 refine s5 ?_
 refine kJ [(1, _), (3, _)] ?_
 refine s4 ?_
 refine aCB (fun w hw => (ContainsFuncN 104 #[] (fun _ => false) [100] _ w (fun x hx W _ => ck1_any x (by simp at hx; omega) W) (hp.up EN hw.bel)).mono (fun _ _ h => h)) ?_
 refine s4 ?_
 refine kJ [(1, _), (3, _)] ?_
 refine s4 ?_
 refine aCB (fun w hw => (ContainsFuncN 104 #[] (fun _ => false) [0] _ w (fun x hx W _ => ck1_any x (by simp at hx; omega) W) (hq.up EN hw.bel)).mono (fun _ _ h => h)) ?_
 refine s8 ?_
 refine kJ [] ?_
 refine s5 ?_
 refine JR_one rfl (rr_tmp rfl) ?_
 intro w' hw
 exact ⟨rfl, hw.bel⟩
set_option maxRecDepth 100000 in
set_option maxHeartbeats 4000000 in
theorem grain_0 (w : World) : Calls Tryz.prog 73 #[.agg #[.int .i64 1000, .int .i64 500, .int .i64 0, .int .i64 0, .int .i64 0]] w (Back (.int .i64 0) w) := by
 refine J_enter (fun _ => False) (vs := [.agg #[.int .i64 1000, .int .i64 500, .int .i64 0, .int .i64 0, .int .i64 0]]) (k := 31) (l := [(0, .agg #[.int .i64 1000, .int .i64 500, .int .i64 0, .int .i64 0, .int .i64 0])]) Tryz.func73 rfl rfl Tryz.ntmps73 rfl rfl (Wd.start _) ?_
 refine s2 ?_
 refine aW (oX [_, _, _, _, _]) (fun b1 hb1 => ?_)
 refine s10 ?_
 refine aCB (fun w hw => iwithinF _ _ _ w) ?_
 refine aDecT ?_ (by decide)
 refine s5 ?_
 refine aDecF ?_ (by decide)
 refine s4 ?_
 refine aCB (fun w hw => iwithin _ _ _ w) ?_
 refine aDecT ?_ (by decide)
 refine s5 ?_
 refine aCB (fun w hw => iwithin _ _ _ w) ?_
 refine aDecT ?_ (by decide)
 refine s5 ?_
 refine aCB (fun w hw => iwithin _ _ _ w) ?_
 refine aDecT ?_ (by decide)
 refine s8 ?_
 refine kJ [] ?_
 refine s5 ?_
 refine JR_one rfl (rr_tmp rfl) ?_
 intro w' hw
 exact ⟨rfl, hw.bel⟩
set_option maxRecDepth 100000 in
set_option maxHeartbeats 4000000 in
theorem iright_0 (pb pq qb qq pc qc : Nat) (w : World) (hp : Arr 1 eN w (.slice (some ⟨pb, pq, none⟩) 1 pc) [100]) (hq : Arr 1 eN w (.slice (some ⟨qb, qq, none⟩) 1 qc) [0]) (b q c : Nat) (hs : Arr 2 eSq w (.slice (some ⟨b, q, none⟩) 1 c) [(0, 0)]) : Calls Tryz.prog 41 #[.agg #[.int .i64 0, .int .i64 0, .int .i64 10, .int .i64 1, .int .i64 1, .slice (some ⟨pb, pq, none⟩) 1 pc, .slice (some ⟨qb, qq, none⟩) 1 qc], .agg #[.int .i64 1000, .int .i64 500, .int .i64 0, .int .i64 0, .int .i64 0], .slice (some ⟨b, q, none⟩) 1 c] w (Back (.bool true) w) := by
 refine J_enter (fun _ => False) (vs := [.agg #[.int .i64 0, .int .i64 0, .int .i64 10, .int .i64 1, .int .i64 1, .slice (some ⟨pb, pq, none⟩) 1 pc, .slice (some ⟨qb, qq, none⟩) 1 qc], .agg #[.int .i64 1000, .int .i64 500, .int .i64 0, .int .i64 0, .int .i64 0], .slice (some ⟨b, q, none⟩) 1 c]) (k := 16) (l := [(0, .agg #[.int .i64 0, .int .i64 0, .int .i64 10, .int .i64 1, .int .i64 1, .slice (some ⟨pb, pq, none⟩) 1 pc, .slice (some ⟨qb, qq, none⟩) 1 qc]), (1, .agg #[.int .i64 1000, .int .i64 500, .int .i64 0, .int .i64 0, .int .i64 0]), (2, .slice (some ⟨b, q, none⟩) 1 c)]) Tryz.func41 rfl rfl Tryz.ntmps41 rfl rfl (Wd.start _) ?_
 refine s2 ?_
 refine aW (oX [_, _, _, _, _, _, _]) (fun b3 hb3 => ?_)
 refine aW (oX [_, _, _, _, _]) (fun b4 hb4 => ?_)
 refine s6 ?_
 refine aCB (fun w hw => iCheck_0 pb pq qb qq pc qc w (hp.up EN hw.bel) (hq.up EN hw.bel)) ?_
 refine s1 ?_
 refine aDecT ?_ (by decide)
 refine s2 ?_
 refine aCB (fun w hw => grain_0 w) ?_
 refine s1 ?_
 refine aDecT ?_ (by decide)
 refine s3 ?_
 refine aCB (fun w hw => placed_0 _ _ _ w (hs.up ESq hw.bel)) ?_
 refine s5 ?_
 refine JR_one rfl (rr_tmp rfl) ?_
 intro w' hw
 exact ⟨rfl, hw.bel⟩
set_option maxRecDepth 100000 in
set_option maxHeartbeats 4000000 in
theorem at_0 (pb pq qb qq pc qc : Nat) (w : World) : Calls Tryz.prog 110 #[.agg #[.int .i64 0, .int .i64 0, .int .i64 10, .int .i64 1, .int .i64 1, .slice (some ⟨pb, pq, none⟩) 1 pc, .slice (some ⟨qb, qq, none⟩) 1 qc], .agg #[.int .i64 0, .int .i64 0]] w (Back (.tuple #[.int .i64 0, .bool true]) w) := by
 refine J_enter (fun _ => False) (vs := [.agg #[.int .i64 0, .int .i64 0, .int .i64 10, .int .i64 1, .int .i64 1, .slice (some ⟨pb, pq, none⟩) 1 pc, .slice (some ⟨qb, qq, none⟩) 1 qc], .agg #[.int .i64 0, .int .i64 0]]) (k := 54) (l := [(0, .agg #[.int .i64 0, .int .i64 0, .int .i64 10, .int .i64 1, .int .i64 1, .slice (some ⟨pb, pq, none⟩) 1 pc, .slice (some ⟨qb, qq, none⟩) 1 qc]), (1, .agg #[.int .i64 0, .int .i64 0])]) Tryz.func110 rfl rfl Tryz.ntmps110 rfl rfl (Wd.start _) ?_
 refine s2 ?_
 refine aW (oX [_, _, _, _, _, _, _]) (fun b2 hb2 => ?_)
 refine aW (oX [_, _]) (fun b3 hb3 => ?_)
 refine s5 ?_
 refine kJ [(2, _), (3, _)] ?_
 refine xD [0, 1, 2, 3, 4, 5, 6, 7, 8, 9, 10, 11, 12, 13] [1, 4, 7, 10] ?_
 refine s18 ?_
 refine kJ [(2, _), (6, _), (7, _)] ?_
 refine s3 ?_
 refine aDecF ?_ (by decide)
 refine s3 ?_
 refine aDecF ?_ (by decide)
 refine s7 ?_
 refine aP (pMul rfl rfl rfl) ?_
 refine s1 ?_
 refine aDecF ?_ (by decide)
 refine s7 ?_
 refine aP (pMul rfl rfl rfl) ?_
 refine s1 ?_
 refine aDecF ?_ (by decide)
 refine s7 ?_
 refine kJ [(2, _), (6, _), (7, _)] ?_
 refine xD [0, 1, 2, 3, 4, 5, 6, 7, 8, 9, 10, 11, 12, 13] [2, 5, 9] ?_
 refine s6 ?_
 refine dP rfl (pMul rfl rfl rfl) ?_
 refine s10 ?_
 refine JR_two rfl (rr_tmp rfl) (rr_tmp rfl) ?_
 intro w' hw
 exact ⟨rfl, hw.bel⟩
set_option maxRecDepth 100000 in
set_option maxHeartbeats 4000000 in
theorem grains_0 (pb pq qb qq pc qc : Nat) (w : World) (hp : Arr 1 eN w (.slice (some ⟨pb, pq, none⟩) 1 pc) [100]) (hq : Arr 1 eN w (.slice (some ⟨qb, qq, none⟩) 1 qc) [0]) : Calls Tryz.prog 75 #[.agg #[.int .i64 0, .int .i64 0, .int .i64 10, .int .i64 1, .int .i64 1, .slice (some ⟨pb, pq, none⟩) 1 pc, .slice (some ⟨qb, qq, none⟩) 1 qc], .agg #[.int .i64 0, .int .i64 0]] w (Back (.tuple #[.int .i64 100, .int .i64 0]) w) := by
 obtain ⟨_, _, e1, -, -, hp2⟩ := hp
 obtain ⟨_, _, e2, -, -, hq2⟩ := hq
 obtain ⟨_, _, e3, hhp⟩ := hp2 (by simp)
 obtain ⟨_, _, e4, hhq⟩ := hq2 (by simp)
 injection e1 with e1 _ _
 injection e2 with e2 _ _
 rw [← e1] at e3
 rw [← e2] at e4
 injection e3 with e3
 injection e3 with x1 x2
 injection e4 with e4
 injection e4 with y1 y2
 subst x1 x2 y1 y2
 clear e1 e2 hp2 hq2
 refine J_enter (fun _ => False) (vs := [.agg #[.int .i64 0, .int .i64 0, .int .i64 10, .int .i64 1, .int .i64 1, .slice (some ⟨pb, pq, none⟩) 1 pc, .slice (some ⟨qb, qq, none⟩) 1 qc], .agg #[.int .i64 0, .int .i64 0]]) (k := 23) (l := [(0, .agg #[.int .i64 0, .int .i64 0, .int .i64 10, .int .i64 1, .int .i64 1, .slice (some ⟨pb, pq, none⟩) 1 pc, .slice (some ⟨qb, qq, none⟩) 1 qc]), (1, .agg #[.int .i64 0, .int .i64 0])]) Tryz.func75 rfl rfl Tryz.ntmps75 rfl rfl (Wd.start _) ?_
 refine s2 ?_
 refine aW (oX [_, _, _, _, _, _, _]) (fun b2 hb2 => ?_)
 refine aW (oX [_, _]) (fun b3 hb3 => ?_)
 refine s6 ?_
 refine kJ [(2, _), (3, _)] ?_
 refine s3 ?_
 refine aCB (fun w hw => at_0 pb pq qb qq pc qc w) ?_
 refine s8 ?_
 refine kJ [(2, _), (6, _), (7, _)] ?_
 refine s6 ?_
 refine xD [0, 1, 2, 3, 4, 5, 6, 7, 8, 9, 10, 11] [1, 4, 6, 9] ?_
 refine s3 ?_
 refine dP rfl (pIdxI (0) rfl rfl rfl rfl) ?_
 refine dL rfl (vHold (v := .int .i64 100) rfl rfl (fun h => h) hhp (show 0 < [100].length by decide) (by decide) rfl) ?_
 refine s3 ?_
 refine dP rfl (pIdxI (0) rfl rfl rfl rfl) ?_
 refine dL rfl (vHold (v := .int .i64 0) rfl rfl (fun h => h) hhq (show 0 < [0].length by decide) (by decide) rfl) ?_
 refine s6 ?_
 refine JR_two rfl (rr_tmp rfl) (rr_tmp rfl) ?_
 intro w' hw
 exact ⟨rfl, hw.bel⟩
set_option maxRecDepth 100000 in
set_option maxHeartbeats 4000000 in
theorem slow_0 (pb pq qb qq pc qc : Nat) (w : World) (hp : Arr 1 eN w (.slice (some ⟨pb, pq, none⟩) 1 pc) [100]) (hq : Arr 1 eN w (.slice (some ⟨qb, qq, none⟩) 1 qc) [0]) : Calls Tryz.prog 42 #[.agg #[.int .i64 0, .int .i64 0, .int .i64 10, .int .i64 1, .int .i64 1, .slice (some ⟨pb, pq, none⟩) 1 pc, .slice (some ⟨qb, qq, none⟩) 1 qc], .agg #[.int .i64 1000, .int .i64 500, .int .i64 0, .int .i64 0, .int .i64 0], .agg #[.int .i64 0, .int .i64 0]] w (Back (.int .i64 950) w) := by
 refine J_enter (fun _ => False) (vs := [.agg #[.int .i64 0, .int .i64 0, .int .i64 10, .int .i64 1, .int .i64 1, .slice (some ⟨pb, pq, none⟩) 1 pc, .slice (some ⟨qb, qq, none⟩) 1 qc], .agg #[.int .i64 1000, .int .i64 500, .int .i64 0, .int .i64 0, .int .i64 0], .agg #[.int .i64 0, .int .i64 0]]) (k := 40) (l := [(0, .agg #[.int .i64 0, .int .i64 0, .int .i64 10, .int .i64 1, .int .i64 1, .slice (some ⟨pb, pq, none⟩) 1 pc, .slice (some ⟨qb, qq, none⟩) 1 qc]), (1, .agg #[.int .i64 1000, .int .i64 500, .int .i64 0, .int .i64 0, .int .i64 0]), (2, .agg #[.int .i64 0, .int .i64 0])]) Tryz.func42 rfl rfl Tryz.ntmps42 rfl rfl (Wd.start _) ?_
 refine s2 ?_
 refine aW (oX [_, _, _, _, _, _, _]) (fun b3 hb3 => ?_)
 refine aW (oX [_, _, _, _, _]) (fun b4 hb4 => ?_)
 refine aW (oX [_, _]) (fun b5 hb5 => ?_)
 refine s4 ?_
 refine kJ [(3, _), (4, _), (5, _)] ?_
 refine s3 ?_
 refine aCB (fun w hw => grains_0 pb pq qb qq pc qc w (hp.up EN hw.bel) (hq.up EN hw.bel)) ?_
 refine s8 ?_
 refine kJ [(4, _), (7, _), (8, _)] ?_
 refine s7 ?_
 refine aCB (fun w hw => scale_1 w) ?_
 refine s8 ?_
 refine kJ [(4, _), (8, _), (9, _)] ?_
 refine s8 ?_
 refine aP (pMul rfl rfl rfl) ?_
 refine s1 ?_
 refine aCB (fun w hw => scale_2 w) ?_
 refine s8 ?_
 refine kJ [(11, _)] ?_
 refine s6 ?_
 refine JR_one rfl (rr_tmp rfl) ?_
 intro w' hw
 exact ⟨rfl, hw.bel⟩
set_option maxRecDepth 100000 in
set_option maxHeartbeats 4000000 in
theorem Slow_0 (pb pq qb qq pc qc : Nat) (w : World) (hp : Arr 1 eN w (.slice (some ⟨pb, pq, none⟩) 1 pc) [100]) (hq : Arr 1 eN w (.slice (some ⟨qb, qq, none⟩) 1 qc) [0]) : Calls Tryz.prog 16 #[.agg #[.int .i64 0, .int .i64 0, .int .i64 10, .int .i64 1, .int .i64 1, .slice (some ⟨pb, pq, none⟩) 1 pc, .slice (some ⟨qb, qq, none⟩) 1 qc], .agg #[.int .i64 1000, .int .i64 500, .int .i64 0, .int .i64 0, .int .i64 0], .agg #[.int .i64 0, .int .i64 0]] w (Back (.tuple #[.int .i64 950, .int .i64 0]) w) := by
 refine J_enter (fun _ => False) (vs := [.agg #[.int .i64 0, .int .i64 0, .int .i64 10, .int .i64 1, .int .i64 1, .slice (some ⟨pb, pq, none⟩) 1 pc, .slice (some ⟨qb, qq, none⟩) 1 qc], .agg #[.int .i64 1000, .int .i64 500, .int .i64 0, .int .i64 0, .int .i64 0], .agg #[.int .i64 0, .int .i64 0]]) (k := 15) (l := [(0, .agg #[.int .i64 0, .int .i64 0, .int .i64 10, .int .i64 1, .int .i64 1, .slice (some ⟨pb, pq, none⟩) 1 pc, .slice (some ⟨qb, qq, none⟩) 1 qc]), (1, .agg #[.int .i64 1000, .int .i64 500, .int .i64 0, .int .i64 0, .int .i64 0]), (2, .agg #[.int .i64 0, .int .i64 0])]) Tryz.func16 rfl rfl Tryz.ntmps16 rfl rfl (Wd.start _) ?_
 refine s2 ?_
 refine aW (oX [_, _, _, _, _, _, _]) (fun b3 hb3 => ?_)
 refine aW (oX [_, _, _, _, _]) (fun b4 hb4 => ?_)
 refine aW (oX [_, _]) (fun b5 hb5 => ?_)
 refine s6 ?_
 refine kJ [(3, _), (4, _), (5, _)] ?_
 refine s4 ?_
 refine aW (ow_sliceC (vs := [_, _]) (ty := 52) rfl rfl (by rfl) rfl rfl (fun _ => by kernel_rfl)) (fun b11 hb11 => ?_)
 refine aCB (fun w hw => iright_0 pb pq qb qq pc qc w (hp.up EN hw.bel) (hq.up EN hw.bel) _ _ _ (cell_arr ESq (vs := [(0, 0)]) (hw.ok (cellB b11 [.int .i64 0, .int .i64 0] 52) (by repeat constructor)).1 (by decide))) ?_
 refine s7 ?_
 refine kJ [(3, _), (4, _), (5, _)] ?_
 refine s4 ?_
 refine aCB (fun w hw => slow_0 pb pq qb qq pc qc w (hp.up EN hw.bel) (hq.up EN hw.bel)) ?_
 refine s5 ?_
 refine JR_two rfl (rr_tmp rfl) (rr_tmp rfl) ?_
 intro w' hw
 exact ⟨rfl, hw.bel⟩
set_option maxRecDepth 100000 in
set_option maxHeartbeats 4000000 in
theorem sound_any (w : World) : Calls Tryz.prog 4 #[] w (Back (.bool true) w) := by
 refine J_enter (fun _ => False) (vs := []) (k := 34) (l := []) Tryz.func4 rfl rfl Tryz.ntmps4 rfl rfl (Wd.start _) ?_
 refine s7 ?_
 refine aCB (fun w hw => root_two w) ?_
 refine s8 ?_
 refine kJ [(1, _), (2, _)] ?_
 refine s1 ?_
 refine aW (ow_sliceC (vs := [_]) (ty := 3) rfl rfl (by rfl) rfl rfl (fun _ => by kernel_rfl)) (fun b10 hb10 => ?_)
 refine aW (ow_sliceC (vs := [_]) (ty := 3) rfl rfl (by rfl) rfl rfl (fun _ => by kernel_rfl)) (fun b11 hb11 => ?_)
 refine aP (rp_buildC (fun us => [.int .i64 0, .int .i64 0, us.getD 0 undef, us.getD 1 undef, us.getD 2 undef, us.getD 3 undef, us.getD 4 undef]) rfl rfl (fun w => by kernel_rfl)) ?_
 refine aW oA (fun b3 hb3 => ?_)
 refine aW0 (wStore (cs := [_, _, _, _, _, _, _]) rfl rfl rfl rfl rfl rfl rfl (by repeat constructor) rfl rfl) ?_
 refine s5 ?_
 refine aP (rp_buildC (fun us => [us.getD 0 undef, us.getD 1 undef, .int .i64 0, .int .i64 0, .int .i64 0]) rfl rfl (fun w => by kernel_rfl)) ?_
 refine aP (rp_buildC (fun us => [.int .i64 0, .int .i64 0]) rfl rfl (fun w => by kernel_rfl)) ?_
 refine aCB (fun w hw => Slow_0 b10 0 b11 0 1 1 w (cell_arr EN (vs := [100]) (hw.ok (cellB b10 [.int .i64 100] 3) (by repeat constructor)).1 (by decide)) (cell_arr EN (vs := [0]) (hw.ok (cellB b11 [.int .i64 0] 3) (by repeat constructor)).1 (by decide))) ?_
 refine s8 ?_
 refine kJ [(1, _), (2, _), (4, _), (5, _)] ?_
 refine s3 ?_
 refine aDecT ?_ (by decide)
 refine s3 ?_
 refine aDecT ?_ (by decide)
 refine s4 ?_
 refine aDecT ?_ (by decide)
 refine s4 ?_
 refine aDecT ?_ (by decide)
 refine s5 ?_
 refine JR_one rfl (rr_tmp rfl) ?_
 intro w' hw
 exact ⟨rfl, hw.bel⟩
set_option maxRecDepth 100000 in
set_option maxHeartbeats 4000000 in
theorem Nearest_no (l : List St) (v : Value) (w : World) (hrow : Arr 4 eT w v l) (hc : chkB l = false) : Calls Tryz.prog 6 #[v] w (Back (.tuple #[.slice none 0 0, .int .i64 2]) w) := by
 have hrow0 := hrow
 obtain ⟨A, cap, rfl, -, ⟨hl, -⟩, hA⟩ := hrow
 refine J_enter (fun _ => False) (vs := [.slice A l.length cap]) (k := 8) (l := [(0, .slice A l.length cap)]) Tryz.func6 rfl rfl Tryz.ntmps6 rfl rfl (Wd.start _) ?_
 refine s10 ?_
 refine aCB (fun w hw => (Check_any l _ w (hrow0.up ET hw.bel)).mono (fun _ _ h => by rw [hc] at h; exact h)) ?_
 refine s5 ?_
 refine kJ [] ?_
 refine s7 ?_
 refine JR_two rfl (rr_tmp rfl) (rr_tmp rfl) ?_
 intro w' hw
 exact ⟨rfl, hw.bel⟩
set_option maxRecDepth 100000 in
set_option maxHeartbeats 4000000 in
theorem Nearest_ok (l : List St) (v : Value) (w : World) (hrow : Arr 4 eT w v l) (hc : chkB l = true) : Calls Tryz.prog 6 #[v] w (Ret w (fun t : NrT => NrP l t.L) (fun t => .tuple #[.slice t.A t.L.length t.c, .int .i64 0]) (fun t => [ownB 3 1 t.A t.L.length t.c (t.L.flatMap eN)])) := by
 have hrow0 := hrow
 obtain ⟨A, cap, rfl, -, ⟨hl, -⟩, hA⟩ := hrow
 have hl16 := (chk_facts hc).1
 have okm : ∀ s ∈ l, okSt s := fun s hs => by
  obtain ⟨j, hj, rfl⟩ := List.getElem_of_mem hs
  exact (chk_facts hc).2 j hj
 refine J_enter (fun _ => False) (vs := [.slice A l.length cap]) (k := 8) (l := [(0, .slice A l.length cap)]) Tryz.func6 rfl rfl Tryz.ntmps6 rfl rfl (Wd.start _) ?_
 refine s10 ?_
 refine aCB (fun w hw => (Check_any l _ w (hrow0.up ET hw.bel)).mono (fun _ _ h => by rw [hc] at h; exact h)) ?_
 refine s7 ?_
 refine kJ [(0, _)] ?_
 refine s2 ?_
 refine aW (oR (fun w hw => nearest_any l _ w (hrow0.up ET hw.bel) (fun s hs => (okm s hs).2.1) (fun s hs => (okm s hs).2.2) (by omega))) (fun t8 ht8 => ?_)
 refine s5 ?_
 refine JR_two rfl (rr_tmp rfl) (rr_tmp rfl) ?_
 intro w' hw
 exact ⟨t8, ht8, rfl, hw.pick (by repeat constructor)⟩
end Go.Proofs.YtmcpnoailbmkkaaGreat
/- TopCount: the walk. -/
namespace Go.Proofs.YtmcpnoailbmkkaaGreat
open Go Go.RowKit Go.Proofs
attribute [local irreducible] J JQ JL JA JD

set_option maxRecDepth 100000 in
set_option maxHeartbeats 4000000 in
theorem has_any (L : List (Int × Int)) (hx0 hn0 : Int) (v : Value) (w : World) (hrow : Arr 2 eSc w v L) (hm : (hx0, hn0) ∈ L) : Calls Tryz.prog 12 #[v, Scv (hx0, hn0)] w (Back (.bool true) w) := by
 obtain ⟨A, cap, rfl, -, ⟨hl9, -⟩, hA⟩ := hrow
 refine J_enter (fun _ => False) (vs := [.slice A L.length cap, .agg #[.int .i64 hx0, .int .i64 hn0]]) (k := 15) (l := [(0, .slice A L.length cap), (1, .agg #[.int .i64 hx0, .int .i64 hn0])]) Tryz.func12 rfl rfl Tryz.ntmps12 rfl rfl (Wd.start _) ?_
 refine s2 ?_
 refine aW (oX [_, _]) (fun b3 hb3 => ?_)
 refine s12 ?_
 refine xL (T := Nat) (fun k => k ≤ L.length ∧ (hx0, hn0) ∈ L.drop k) (fun k => [(3, .pointer (some ⟨b3, 0, none⟩)), (7, .slice A L.length cap), (8, .int .i64 (L.length : Nat)), (9, .int .i64 (k : Nat))]) (fun k => [cellB b3 [.int .i64 hx0, .int .i64 hn0] 38]) (fun k => L.length - k) 0 ⟨Nat.zero_le _, by simpa using hm⟩ ?_
 rintro k ⟨hk, hmk⟩
 refine s3 ?_
 refine JL_dec (fun h10 => ?_) (fun h10 => ?_)
 ·refine s9 ?_
  have hltx : k < L.length := by omega
  obtain ⟨bx, qx, rfl, hh⟩ := hA (by intro e; subst e; simp at hltx)
  obtain ⟨⟨xa, xb⟩, hx⟩ : ∃ y, L[k]'hltx = y := ⟨_, rfl⟩
  refine s2 ?_
  refine aV (vHoldA (cs := [.int .i64 xa, .int .i64 xb]) ESc rfl rfl (fun h => h) hh hltx (by rw [hx]; rfl)) ?_
  refine aW oA (fun b6 hb6 => ?_)
  refine s7 ?_
  refine aP (pEqlSc rfl rfl rfl) ?_
  refine JL_bool (fun h15 => ?_) (fun h15 => ?_)
  ·refine s4 ?_
   refine kJ [] ?_
   refine s10 ?_
   refine JR_one rfl (rr_tmp rfl) ?_
   intro w' hw
   exact ⟨rfl, hw.bel⟩
  ·refine s6 ?_
   refine kJ [(3, _), (7, _), (8, _), (9, _)] ?_
   refine s4 ?_
   have hn : (hx0, hn0) ∈ L.drop (k + 1) := by
    rw [List.drop_eq_getElem_cons hltx, hx] at hmk
    rcases List.mem_cons.1 hmk with e | e
    ·injection e with x1 x2
     subst x1 x2
     rw [eqSc_iff (p := (hx0, hn0)) (q := (hx0, hn0)) |>.2 rfl] at h15; cases h15
    ·exact e
   exact xR (k + 1) ⟨by omega, hn⟩ (by omega) (hl := ⟨rfl, rfl, rfl, (congrArg some (by go_num)), trivial⟩)
 ·refine s10 ?_
  refine kJ [] ?_
  refine s5 ?_
  refine JR_one rfl (rr_tmp rfl) ?_
  intro w' hw
  obtain rfl : k = L.length := by omega
  rw [List.drop_length] at hmk; cases hmk
set_option maxRecDepth 100000 in
set_option maxHeartbeats 4000000 in
theorem indices_any (L : List Nat) (n : Nat) (v : Value) (w : World) (hrow : Arr 1 eN w v L) (hm : ∀ i ∈ L, i < n) : Calls Tryz.prog 11 #[v, .int .i64 (n : Nat)] w (Back (.bool true) w) := by
 obtain ⟨A, cap, rfl, -, ⟨hl9, -⟩, hA⟩ := hrow
 refine J_enter (fun _ => False) (vs := [.slice A L.length cap, .int .i64 (n : Nat)]) (k := 19) (l := [(0, .slice A L.length cap), (1, .int .i64 (n : Nat))]) Tryz.func11 rfl rfl Tryz.ntmps11 rfl rfl (Wd.start _) ?_
 refine s14 ?_
 refine xL (T := Nat) (fun k => k ≤ L.length) (fun k => [(1, .int .i64 (n : Nat)), (7, .slice A L.length cap), (8, .int .i64 (L.length : Nat)), (9, .int .i64 (k : Nat))]) (fun k => []) (fun k => L.length - k) 0 (Nat.zero_le _) ?_
 rintro k hk
 refine s3 ?_
 refine JL_dec (fun h10 => ?_) (fun h10 => ?_)
 ·refine s9 ?_
  have hltx : k < L.length := by omega
  obtain ⟨bx, qx, rfl, hh⟩ := hA (by intro e; subst e; simp at hltx)
  obtain ⟨x, hx⟩ : ∃ y, L[k]'hltx = y := ⟨_, rfl⟩
  have hxn : x < n := hm x (by rw [← hx]; exact List.getElem_mem _)
  refine s2 ?_
  refine aV (vHold (v := .int .i64 (x : Nat)) rfl rfl (fun h => h) hh hltx (by omega) (by rw [hx]; rfl)) ?_
  refine s7 ?_
  refine aDecF ?_ (by omega)
  refine s4 ?_
  refine aDecF ?_ (by omega)
  refine s7 ?_
  refine kJ [(1, _), (7, _), (8, _), (9, _)] ?_
  refine s4 ?_
  exact xR (k + 1) (by omega) (by omega) (hl := ⟨rfl, rfl, rfl, (congrArg some (by go_num)), trivial⟩)
 ·refine s10 ?_
  refine kJ [] ?_
  refine s5 ?_
  refine JR_one rfl (rr_tmp rfl) ?_
  intro w' hw
  exact ⟨rfl, hw.bel⟩
/-- What the law needs of a position that is valid. -/
structure TcF (l : List St) : Prop where
 ply : Ply l
 ok : ∀ r ∈ exF l, rtB r 16 = true
 e : sdE l (exF l) = 0
 a : sdF l (exF l) 0 = rs (sid l (fun i => (exF l).getD i Rdg.d) 0 l.length)
 b : sdF l (exF l) 1 = rs (sid l (fun i => (exF l).getD i Rdg.d) 1 l.length)
 c : cntF l = ((refT l).1, (refT l).2, 0)
theorem tcF {l : List St} (h : chkB l = true) : TcF l := by
 have hl16 := (chk_facts h).1
 have hmk := mk_of h
 have hm := (mk_facts hmk).2
 have hv := exF_ok hm
 have hbn : bndL l.length (exF l) = exF l := by
  have := bnd_own (rs := exF l) (fun k hk => by rw [exF_get hk]) (fun r hr => by
   have := hv r hr
   unfold rtB at this
   rw [Bool.and_eq_true, Bool.and_eq_true] at this
   have a1 := of_decide_eq_true this.1.2
   have a2 := of_decide_eq_true this.2
   omega)
  rw [exF_len] at this
  exact this
 refine ⟨fun i hi => ?_, fun r hr => ?_, ?_, ?_, ?_, ?_⟩
 ·have := (chk_facts h).2 i hi
  rw [List.getD_eq_getElem?_getD, List.getElem?_eq_getElem hi]
  exact this.2.2
 ·have := hv r hr
  unfold rtB at this ⊢
  rw [Bool.and_eq_true, Bool.and_eq_true] at this
  have a0 := of_decide_eq_true this.1.1
  rw [this.1.2, this.2, decide_eq_true (by omega)]; rfl
 ·rw [sdE_b (by rw [exF_len]; omega) hmk]
  have h1 : (exF l).any (fun r => !rtB r (l.length : Nat)) = false := by
   rw [List.any_eq_false]
   intro r hr
   rw [hv r hr]; simp
  rw [bndE_end hl16 (by rw [exF_len]; omega) h1 rfl, hbn]
  have h2 : (exF l).any (fun r => decide (r.hi < r.lo)) = false := by
   rw [List.any_eq_false]
   intro r hr
   have := hv r hr
   unfold rtB at this
   rw [Bool.and_eq_true, Bool.and_eq_true] at this
   have a1 := of_decide_eq_true this.1.2
   simp; omega
  rw [h2]; rfl
 ·rw [sid_sd]; unfold sdF; rw [hbn]
 ·rw [sid_sd]; unfold sdF; rw [hbn]
 ·unfold cntF; rw [if_pos h]
theorem TcF.mem {l : List St} (h : TcF l) {L : List (Int × Int)} (hL : ScQ (sdF l (exF l) 0) (sdF l (exF l) 1) L) : ((refT l).1, (refT l).2) ∈ L := by
 rw [hL.2.1, h.a, h.b]
 exact count_in h.ply (exF_rt l)
theorem pt_two {L : List (Int × Int)} {p : Int × Int} (h : p ∈ L) : ptF L = (p, true) ∨ ∃ q, ptF L = (q, false) := by
 match L, h with
 | [q], h => exact .inl (by rw [List.mem_singleton.1 h]; rfl)
 | _ :: _ :: _, _ => exact .inr ⟨_, rfl⟩
theorem ner_ok {a b : Rdg} (ha : rtB a 16 = true) (hb : rtB b 16 = true) : nerF a b = (nrr a b, 0) := by unfold nerF; rw [if_pos ⟨ha, hb⟩]
theorem hos_ok {a : Rdg} (ha : rtB a 16 = true) : hosF a = (hou a, 0) := by unfold hosF; rw [if_pos ha]
set_option maxRecDepth 100000 in
set_option maxHeartbeats 4000000 in
theorem Count_big (l : List St) (v : Value) (w : World) (hrow : Arr 4 eT w v l) (h : 20 < l.length) : Calls Tryz.prog 3 #[v] w (Back (.bool true) w) := by
 have hrow0 := hrow
 obtain ⟨A, cap, rfl, -, ⟨hl, -⟩, hA⟩ := hrow
 refine J_enter (fun _ => False) (vs := [.slice A l.length cap]) (k := 155) (l := [(0, .slice A l.length cap)]) Tryz.func3 rfl rfl Tryz.ntmps3 rfl rfl (Wd.start _) ?_
 refine s11 ?_
 refine aDecT ?_ (by omega)
 refine s4 ?_
 refine kJ [] ?_
 refine s1 ?_
 refine aCB (fun w hw => sound_any w) ?_
 refine s5 ?_
 refine JR_one rfl (rr_tmp rfl) ?_
 intro w' hw
 exact ⟨rfl, hw.bel⟩
set_option maxRecDepth 100000 in
set_option maxHeartbeats 4000000 in
theorem Count_bad (l : List St) (v : Value) (w : World) (hrow : Arr 4 eT w v l) (h : ¬ 20 < l.length) (hc : chkB l = false) : Calls Tryz.prog 3 #[v] w (Back (.bool true) w) := by
 have hrow0 := hrow
 obtain ⟨A, cap, rfl, -, ⟨hl, -⟩, hA⟩ := hrow
 refine J_enter (fun _ => False) (vs := [.slice A l.length cap]) (k := 155) (l := [(0, .slice A l.length cap)]) Tryz.func3 rfl rfl Tryz.ntmps3 rfl rfl (Wd.start _) ?_
 refine s11 ?_
 refine aDecF ?_ (by omega)
 refine s6 ?_
 refine kJ [(0, _)] ?_
 refine s2 ?_
 refine aCB (fun w hw => (Count_any l _ w (hrow0.up ET hw.bel)).mono (fun _ _ h => by unfold cntF at h; rw [if_neg (by rw [hc]; simp)] at h; exact h)) ?_
 refine s10 ?_
 refine kJ [(0, _), (3, _), (4, _), (5, _)] ?_
 refine s2 ?_
 refine aCB (fun w hw => Nearest_no l _ w (hrow0.up ET hw.bel) hc) ?_
 refine s9 ?_
 refine kJ [(0, _), (3, _), (4, _), (5, _), (6, _), (7, _)] ?_
 refine s3 ?_
 refine aDecT ?_ (by decide)
 refine s8 ?_
 refine kJ [(0, _)] ?_
 refine s2 ?_
 refine aCB (fun w hw => (Check_any l _ w (hrow0.up ET hw.bel)).mono (fun _ _ h => by rw [hc] at h; exact h)) ?_
 refine s2 ?_
 refine aCB (fun w hw => sound_any w) ?_
 refine s6 ?_
 refine JR_one rfl (rr_tmp rfl) ?_
 intro w' hw
 exact ⟨rfl, hw.bel⟩
theorem own_arrX {B : Bs} {H : List It} {w : World} {l : List St} {A : Option Addr} {c : Nat} (hl : (exF l).length = l.length) (hw : Wd B H w) (hm : ownB 47 3 A l.length c ((exF l).flatMap eRd) ∈ H) (hn : l.length ≤ 1000) : Arr 3 eRd w (.slice A l.length c) (exF l) := by
 have hm2 : ownB 47 3 A (exF l).length c ((exF l).flatMap eRd) ∈ H := by rw [hl]; exact hm
 have := own_arr ERd hw hm2 (by omega)
 rw [hl] at this
 exact this
set_option maxRecDepth 100000 in
set_option maxHeartbeats 4000000 in
theorem Count_good (l : List St) (v : Value) (w : World) (hrow : Arr 4 eT w v l) (h : ¬ 20 < l.length) (hc : chkB l = true) : Calls Tryz.prog 3 #[v] w (Back (.bool true) w) := by
 have hrow0 := hrow
 obtain ⟨A, cap, rfl, -, ⟨hl, -⟩, hA⟩ := hrow
 have hF := tcF hc
 have hl16 := (chk_facts hc).1
 have hxl := exF_len l
 obtain ⟨⟨ct, cp⟩, hR⟩ : ∃ p, refT l = p := ⟨_, rfl⟩
 refine J_enter (fun _ => False) (vs := [.slice A l.length cap]) (k := 155) (l := [(0, .slice A l.length cap)]) Tryz.func3 rfl rfl Tryz.ntmps3 rfl rfl (Wd.start _) ?_
 refine s11 ?_
 refine aDecF ?_ (by omega)
 refine s6 ?_
 refine kJ [(0, _)] ?_
 refine s2 ?_
 refine aCB (fun w hw => (Count_any l _ w (hrow0.up ET hw.bel)).mono (fun _ _ h => by rw [hF.c, hR] at h; exact h)) ?_
 refine s10 ?_
 refine kJ [(0, _), (3, _), (4, _), (5, _)] ?_
 refine s2 ?_
 refine aW (oR (fun w hw => Nearest_ok l _ w (hrow0.up ET hw.bel) hc)) (fun t33 ht33 => ?_)
 obtain ⟨NL, nA, nc⟩ := t33
 dsimp only at ht33 ⊢
 have hN := ht33
 have hNl : ∀ i ∈ NL, i < l.length := fun i hi => ((hsA_iff hF.ply).1 (hN.1.mem_iff.1 hi)).1
 have hN16 : NL.length ≤ 16 := by rw [hN.1.length_eq]; have := hsN_len l l.length; unfold hsA; omega
 refine s9 ?_
 refine kJ [(0, _), (3, _), (4, _), (5, _), (6, _), (7, _)] ?_
 refine s3 ?_
 refine aDecF ?_ (by decide)
 refine s3 ?_
 refine aDecF ?_ (by decide)
 refine s7 ?_
 refine kJ [(0, _), (3, _), (4, _), (6, _)] ?_
 refine s2 ?_
 refine aW (oR (fun w hw => Exact_any l _ w (hrow0.up ET hw.bel) (mk_of hc))) (fun t50 _ => ?_)
 obtain ⟨xA, xc⟩ := t50
 dsimp only
 refine s8 ?_
 refine kJ [(0, _), (3, _), (4, _), (6, _), (8, _), (9, _)] ?_
 refine s3 ?_
 refine aW (oR (fun w hw => Scores_ok l (exF l) _ _ w (hrow0.up ET hw.bel) (own_arrX hxl hw (by repeat constructor) (by omega)) hF.e)) (fun t56 ht56 => ?_)
 obtain ⟨ScL, scA, scc⟩ := t56
 dsimp only at ht56 ⊢
 have hS := ht56
 have hmS := hF.mem hS
 rw [hR] at hmS
 have hSl := hS.2.2.2
 refine s8 ?_
 refine kJ [(0, _), (3, _), (4, _), (6, _), (8, _), (9, _), (10, _), (11, _)] ?_
 refine s3 ?_
 refine aW (oR (fun w hw => Points_ok l (exF l) _ _ w (hrow0.up ET hw.bel) (own_arrX hxl hw (by repeat constructor) (by omega)) hF.e)) (fun t62 ht62 => ?_)
 have hmP := hF.mem ht62
 rw [hR] at hmP
 refine s4 ?_
 refine aW oA (fun b12 hb12 => ?_)
 refine s6 ?_
 refine kJ [(0, _), (3, _), (4, _), (6, _), (8, _), (9, _), (10, _), (11, _), (12, _), (13, _), (14, _)] ?_
 refine s3 ?_
 refine aP (rp_buildC (fun us => [us.getD 0 undef, us.getD 1 undef]) rfl rfl (fun w => by kernel_rfl)) ?_
 refine aW oA (fun b15 hb15 => ?_)
 refine s5 ?_
 refine kJ [(0, _), (6, _), (8, _), (9, _), (10, _), (11, _), (12, _), (13, _), (14, _), (15, _)] ?_
 refine s6 ?_
 refine aDecF ?_ (by omega)
 refine s4 ?_
 refine aCB (fun w hw => indices_any NL l.length _ w (own_arr (A := nA) (c := nc) (ty := 3) EN hw (by repeat constructor) (by omega)) hNl) ?_
 refine s9 ?_
 rcases pt_two hmP with h | ⟨⟨qx, qn⟩, h⟩
 ·rw [h]
  refine kJ [(6, _), (8, _), (9, _), (10, _), (11, _), (12, _), (13, _), (14, _), (15, _)] ?_
  refine s3 ?_
  refine aDecF ?_ (by decide)
  refine s3 ?_
  refine aDecF ?_ (by decide)
  refine s4 ?_
  refine aDecF ?_ (by decide)
  refine s4 ?_
  refine aCB (fun w hw => has_any ScL ct cp _ w (own_arr (A := scA) (c := scc) (ty := 38) ESc hw (by repeat constructor) (by omega)) hmS) ?_
  refine s7 ?_
  refine aP (pNeqSc rfl rfl rfl) ?_
  refine aBoolF ?_ (by simp [eqSc])
  refine s9 ?_
  refine kJ [(6, _), (8, _)] ?_
  refine s5 ?_
  refine xL (T := Nat) (fun k => 1 ≤ k ∧ (k ≤ NL.length ∨ k = 1)) (fun k => [(6, .slice nA NL.length nc), (8, .slice xA l.length xc), (16, .int .i64 (k : Nat))]) (fun k => [ownB 3 1 nA NL.length nc (NL.flatMap eN), ownB 47 3 xA l.length xc ((exF l).flatMap eRd)]) (fun k => NL.length - k) 1 ⟨Nat.le_refl _, .inr rfl⟩ ?_
  rintro k ⟨hk1, hk2⟩
  refine s7 ?_
  refine JL_dec (fun h108 => ?_) (fun h108 => ?_)
  ·refine s8 ?_
   obtain ⟨i, rfl⟩ : ∃ i, k = i + 1 := ⟨k - 1, by omega⟩
   have hlti : i + 1 < NL.length := by omega
   have hlti0 : i < NL.length := by omega
   refine J_fact (fun hw => ?_)
   obtain ⟨gn, rfl⟩ := own_some hw (ty := 3) (k := 1) (m := NL.length) (c := nc) (A := nA) (xs := NL.flatMap eN) (by repeat constructor) (by omega)
   clear hw
   have hnr := near_le hF.ply (exF_rt l) hN hlti
   obtain ⟨u, hu⟩ : ∃ u, NL[i]'hlti0 = u := ⟨_, rfl⟩
   obtain ⟨v, hv⟩ : ∃ v, NL[i + 1]'hlti = v := ⟨_, rfl⟩
   rw [hu, hv] at hnr
   have hul : u < l.length := hNl u (by rw [← hu]; exact List.getElem_mem _)
   have hvl : v < l.length := hNl v (by rw [← hv]; exact List.getElem_mem _)
   refine J_fact (fun hw => ?_)
   obtain ⟨gx, rfl⟩ := own_some hw (ty := 47) (k := 3) (m := l.length) (c := xc) (A := xA) (xs := (exF l).flatMap eRd) (by repeat constructor) (by omega)
   clear hw
   have hux : u < (exF l).length := by omega
   have hvx : v < (exF l).length := by omega
   obtain ⟨⟨ui, ulo, uhi⟩, hxu⟩ : ∃ y, (exF l)[u]'hux = y := ⟨_, rfl⟩
   obtain ⟨⟨vi, vlo, vhi⟩, hxv⟩ : ∃ y, (exF l)[v]'hvx = y := ⟨_, rfl⟩
   have hru := hF.ok _ (List.getElem_mem hux)
   have hrv := hF.ok _ (List.getElem_mem hvx)
   rw [hxu] at hru
   rw [hxv] at hrv
   rw [List.getD_eq_getElem?_getD, List.getElem?_eq_getElem hux, List.getD_eq_getElem?_getD, List.getElem?_eq_getElem hvx, Option.getD_some, Option.getD_some, hxu, hxv] at hnr
   obtain ⟨hnr1, hnr2⟩ := hnr
   obtain ⟨nr, hnr⟩ : ∃ z, nrr ⟨ui, ulo, uhi⟩ ⟨vi, vlo, vhi⟩ = z := ⟨_, rfl⟩
   obtain ⟨ho, hho⟩ : ∃ z, hou ⟨vi, vlo, vhi⟩ = z := ⟨_, rfl⟩
   rw [hnr] at hnr1
   rw [hho] at hnr2
   refine kJ [(6, _), (8, _), (16, _)] ?_
   refine xD [0, 1, 2, 3, 4, 5, 6, 7, 8, 9, 10, 11, 12, 13, 14, 15, 16, 17, 18, 19, 20] [5, 7, 12, 14] ?_
   refine s4 ?_
   refine dP rfl (pIdxI (i) rfl rfl rfl) ?_
   refine dL rfl (vOwn (v := .int .i64 (u : Nat)) EN (L := NL) (j := i) rfl rfl (by repeat constructor) hlti0 (by omega) (by rw [hu]; rfl)) ?_
   refine dP rfl (pIdxI (u) rfl rfl rfl) ?_
   refine dL rfl (vOwnA (cs := [.int .i64 ui, .int .i64 ulo, .int .i64 uhi]) ERd (L := exF l) (j := u) rfl rfl (by repeat constructor) hux (by rw [hxu]; rfl)) ?_
   refine s3 ?_
   refine dP rfl (pIdxI (i + 1) rfl rfl rfl) ?_
   refine dL rfl (vOwn (v := .int .i64 (v : Nat)) EN (L := NL) (j := i + 1) rfl rfl (by repeat constructor) hlti (by omega) (by rw [hv]; rfl)) ?_
   refine dP rfl (pIdxI (v) rfl rfl rfl) ?_
   refine dL rfl (vOwnA (cs := [.int .i64 vi, .int .i64 vlo, .int .i64 vhi]) ERd (L := exF l) (j := v) rfl rfl (by repeat constructor) hvx (by rw [hxv]; rfl)) ?_
   refine dCB rfl (fun w hw => (Nearer_any ⟨ui, ulo, uhi⟩ ⟨vi, vlo, vhi⟩ w).mono (fun _ _ h => by rw [ner_ok hru hrv, hnr] at h; exact h)) ?_
   refine s8 ?_
   refine kJ [(6, _), (8, _), (16, _), (17, _), (18, _)] ?_
   refine s4 ?_
   refine aP (pIdxI (i + 1) rfl rfl rfl) ?_
   refine aV (vOwn (v := .int .i64 (v : Nat)) EN (L := NL) (j := i + 1) rfl rfl (by repeat constructor) hlti (by omega) (by rw [hv]; rfl)) ?_
   refine aP (pIdxI (v) rfl rfl rfl) ?_
   refine aV (vOwnA (cs := [.int .i64 vi, .int .i64 vlo, .int .i64 vhi]) ERd (L := exF l) (j := v) rfl rfl (by repeat constructor) hvx (by rw [hxv]; rfl)) ?_
   refine aCB (fun w hw => (House_any ⟨vi, vlo, vhi⟩ w).mono (fun _ _ h => by rw [hos_ok hrv, hho] at h; exact h)) ?_
   refine s8 ?_
   refine kJ [(6, _), (8, _), (16, _), (17, _), (18, _), (19, _), (20, _)] ?_
   refine s3 ?_
   refine aDecF ?_ (by simp)
   refine s3 ?_
   refine aDecF ?_ (by simp)
   refine s4 ?_
   refine aDecF ?_ (by omega)
   refine s4 ?_
   refine aDecF ?_ (by omega)
   refine s7 ?_
   refine kJ [(6, _), (8, _), (16, _)] ?_
   refine s5 ?_
   exact xR (i + 1 + 1) ⟨by omega, .inl (by omega)⟩ (by omega) (hl := ⟨rfl, rfl, (congrArg some (by go_num)), trivial⟩)
  ·refine s9 ?_
   refine kJ [] ?_
   refine s1 ?_
   refine aCB (fun w hw => sound_any w) ?_
   refine s4 ?_
   refine JR_one rfl (rr_tmp rfl) ?_
   intro w' hw
   exact ⟨rfl, hw.bel⟩
 ·rw [h]
  refine kJ [(6, _), (8, _), (9, _), (10, _), (11, _), (12, _), (13, _), (14, _), (15, _)] ?_
  refine s3 ?_
  refine aDecF ?_ (by decide)
  refine s3 ?_
  refine aDecF ?_ (by decide)
  refine s4 ?_
  refine aDecF ?_ (by decide)
  refine s4 ?_
  refine aCB (fun w hw => has_any ScL ct cp _ w (own_arr (A := scA) (c := scc) (ty := 38) ESc hw (by repeat constructor) (by omega)) hmS) ?_
  refine s17 ?_
  refine kJ [(6, _), (8, _)] ?_
  refine s5 ?_
  refine xL (T := Nat) (fun k => 1 ≤ k ∧ (k ≤ NL.length ∨ k = 1)) (fun k => [(6, .slice nA NL.length nc), (8, .slice xA l.length xc), (16, .int .i64 (k : Nat))]) (fun k => [ownB 3 1 nA NL.length nc (NL.flatMap eN), ownB 47 3 xA l.length xc ((exF l).flatMap eRd)]) (fun k => NL.length - k) 1 ⟨Nat.le_refl _, .inr rfl⟩ ?_
  rintro k ⟨hk1, hk2⟩
  refine s7 ?_
  refine JL_dec (fun h108 => ?_) (fun h108 => ?_)
  ·refine s8 ?_
   obtain ⟨i, rfl⟩ : ∃ i, k = i + 1 := ⟨k - 1, by omega⟩
   have hlti : i + 1 < NL.length := by omega
   have hlti0 : i < NL.length := by omega
   refine J_fact (fun hw => ?_)
   obtain ⟨gn, rfl⟩ := own_some hw (ty := 3) (k := 1) (m := NL.length) (c := nc) (A := nA) (xs := NL.flatMap eN) (by repeat constructor) (by omega)
   clear hw
   have hnr := near_le hF.ply (exF_rt l) hN hlti
   obtain ⟨u, hu⟩ : ∃ u, NL[i]'hlti0 = u := ⟨_, rfl⟩
   obtain ⟨v, hv⟩ : ∃ v, NL[i + 1]'hlti = v := ⟨_, rfl⟩
   rw [hu, hv] at hnr
   have hul : u < l.length := hNl u (by rw [← hu]; exact List.getElem_mem _)
   have hvl : v < l.length := hNl v (by rw [← hv]; exact List.getElem_mem _)
   refine J_fact (fun hw => ?_)
   obtain ⟨gx, rfl⟩ := own_some hw (ty := 47) (k := 3) (m := l.length) (c := xc) (A := xA) (xs := (exF l).flatMap eRd) (by repeat constructor) (by omega)
   clear hw
   have hux : u < (exF l).length := by omega
   have hvx : v < (exF l).length := by omega
   obtain ⟨⟨ui, ulo, uhi⟩, hxu⟩ : ∃ y, (exF l)[u]'hux = y := ⟨_, rfl⟩
   obtain ⟨⟨vi, vlo, vhi⟩, hxv⟩ : ∃ y, (exF l)[v]'hvx = y := ⟨_, rfl⟩
   have hru := hF.ok _ (List.getElem_mem hux)
   have hrv := hF.ok _ (List.getElem_mem hvx)
   rw [hxu] at hru
   rw [hxv] at hrv
   rw [List.getD_eq_getElem?_getD, List.getElem?_eq_getElem hux, List.getD_eq_getElem?_getD, List.getElem?_eq_getElem hvx, Option.getD_some, Option.getD_some, hxu, hxv] at hnr
   obtain ⟨hnr1, hnr2⟩ := hnr
   obtain ⟨nr, hnr⟩ : ∃ z, nrr ⟨ui, ulo, uhi⟩ ⟨vi, vlo, vhi⟩ = z := ⟨_, rfl⟩
   obtain ⟨ho, hho⟩ : ∃ z, hou ⟨vi, vlo, vhi⟩ = z := ⟨_, rfl⟩
   rw [hnr] at hnr1
   rw [hho] at hnr2
   refine kJ [(6, _), (8, _), (16, _)] ?_
   refine xD [0, 1, 2, 3, 4, 5, 6, 7, 8, 9, 10, 11, 12, 13, 14, 15, 16, 17, 18, 19, 20] [5, 7, 12, 14] ?_
   refine s4 ?_
   refine dP rfl (pIdxI (i) rfl rfl rfl) ?_
   refine dL rfl (vOwn (v := .int .i64 (u : Nat)) EN (L := NL) (j := i) rfl rfl (by repeat constructor) hlti0 (by omega) (by rw [hu]; rfl)) ?_
   refine dP rfl (pIdxI (u) rfl rfl rfl) ?_
   refine dL rfl (vOwnA (cs := [.int .i64 ui, .int .i64 ulo, .int .i64 uhi]) ERd (L := exF l) (j := u) rfl rfl (by repeat constructor) hux (by rw [hxu]; rfl)) ?_
   refine s3 ?_
   refine dP rfl (pIdxI (i + 1) rfl rfl rfl) ?_
   refine dL rfl (vOwn (v := .int .i64 (v : Nat)) EN (L := NL) (j := i + 1) rfl rfl (by repeat constructor) hlti (by omega) (by rw [hv]; rfl)) ?_
   refine dP rfl (pIdxI (v) rfl rfl rfl) ?_
   refine dL rfl (vOwnA (cs := [.int .i64 vi, .int .i64 vlo, .int .i64 vhi]) ERd (L := exF l) (j := v) rfl rfl (by repeat constructor) hvx (by rw [hxv]; rfl)) ?_
   refine dCB rfl (fun w hw => (Nearer_any ⟨ui, ulo, uhi⟩ ⟨vi, vlo, vhi⟩ w).mono (fun _ _ h => by rw [ner_ok hru hrv, hnr] at h; exact h)) ?_
   refine s8 ?_
   refine kJ [(6, _), (8, _), (16, _), (17, _), (18, _)] ?_
   refine s4 ?_
   refine aP (pIdxI (i + 1) rfl rfl rfl) ?_
   refine aV (vOwn (v := .int .i64 (v : Nat)) EN (L := NL) (j := i + 1) rfl rfl (by repeat constructor) hlti (by omega) (by rw [hv]; rfl)) ?_
   refine aP (pIdxI (v) rfl rfl rfl) ?_
   refine aV (vOwnA (cs := [.int .i64 vi, .int .i64 vlo, .int .i64 vhi]) ERd (L := exF l) (j := v) rfl rfl (by repeat constructor) hvx (by rw [hxv]; rfl)) ?_
   refine aCB (fun w hw => (House_any ⟨vi, vlo, vhi⟩ w).mono (fun _ _ h => by rw [hos_ok hrv, hho] at h; exact h)) ?_
   refine s8 ?_
   refine kJ [(6, _), (8, _), (16, _), (17, _), (18, _), (19, _), (20, _)] ?_
   refine s3 ?_
   refine aDecF ?_ (by simp)
   refine s3 ?_
   refine aDecF ?_ (by simp)
   refine s4 ?_
   refine aDecF ?_ (by omega)
   refine s4 ?_
   refine aDecF ?_ (by omega)
   refine s7 ?_
   refine kJ [(6, _), (8, _), (16, _)] ?_
   refine s5 ?_
   exact xR (i + 1 + 1) ⟨by omega, .inl (by omega)⟩ (by omega) (hl := ⟨rfl, rfl, (congrArg some (by go_num)), trivial⟩)
  ·refine s9 ?_
   refine kJ [] ?_
   refine s1 ?_
   refine aCB (fun w hw => sound_any w) ?_
   refine s4 ?_
   refine JR_one rfl (rr_tmp rfl) ?_
   intro w' hw
   exact ⟨rfl, hw.bel⟩
theorem TopCount_law (l : List St) (v : Value) (w : World) (hrow : Arr 4 eT w v l) : Calls Tryz.prog 3 #[v] w (Back (.bool true) w) := by
 by_cases h : 20 < l.length
 ·exact Count_big l v w hrow h
 cases hc : chkB l
 ·exact Count_bad l v w hrow h hc
 ·exact Count_good l v w hrow h hc
end Go.Proofs.YtmcpnoailbmkkaaGreat
/- Parameters of the laws: what their reading gives, and that they are read again as they were. -/
namespace Go.Proofs.YtmcpnoailbmkkaaGreat
open Go.ChangeShapes Go.WideShapes Go.ChangeAt Go.RowKit
section
variable {H : Type} {enc : TypeId × Value → H}
set_option maxRecDepth 100000
theorem el_int : ElC Tryz.prog enc 3 (fun _ cs => ∃ x, cs = [.int .i64 x] ∧ (Lit.int .i64 x).wf = true) := elInt Tryz.underlying3
theorem el_fix : ElC Tryz.prog enc 45 (fun _ cs => ∃ x, cs = [.int .i64 x] ∧ (Lit.int .i64 x).wf = true) := elInt Tryz.underlying45
theorem fld {fs : Array Field} {Rs : Nat → World → List Value → Prop} {W : World} {cs : List Value} (h : ∀ (i : Nat) (f : Field), fs[i]? = some f → Rs i W ((cs.drop f.offset).take (Tryz.prog.cellsOf f.type))) (i : Nat) {f : Field} (hf : fs[i]? = some f) {n : Nat} (hn : Tryz.prog.cellsOf f.type = n) {c : List Value} (hc : (cs.drop f.offset).take n = c) : Rs i W c := by
 have := h i f hf; rw [hn, hc] at this; exact this
def spotR (i : Nat) (_ : World) (cs : List Value) : Prop := match i with
 | 0 => ∃ x, cs = [.int .i64 x] ∧ (Lit.int .i64 x).wf = true
 | 1 => ∃ x, cs = [.int .i64 x] ∧ (Lit.int .i64 x).wf = true
 | _ => True
theorem el_spot : ElC Tryz.prog enc 52 (fun _ cs => ∃ p : Int × Int, cs = [.int .i64 p.1, .int .i64 p.2]) := by
 refine (elStruct (Rs := spotR) Tryz.underlying52 (fun i f hi => ?_)).imp fun _ cs ⟨hl, h⟩ => ?_
 ·rcases i with _ | _ | i
  ·obtain rfl := Option.some.inj hi; exact el_fix
  ·obtain rfl := Option.some.inj hi; exact el_fix
  ·cases hi
 ·rw [show Tryz.prog.cellsOf 52 = 2 by kernel_rfl] at hl
  obtain ⟨c_0, c_1, rfl⟩ : ∃ c_0 c_1, cs = [c_0, c_1] := by
   match cs, hl with
   | [c_0, c_1], _ => exact ⟨_, _, rfl⟩
  have f0 := fld (c := [c_0]) h 0 rfl (show Tryz.prog.cellsOf _ = 1 by kernel_rfl) rfl
  have f1 := fld (c := [c_1]) h 1 rfl (show Tryz.prog.cellsOf _ = 1 by kernel_rfl) rfl
  obtain ⟨x0, e0, -⟩ := f0
  obtain rfl := (List.cons.inj e0).1
  obtain ⟨x1, e1, -⟩ := f1
  obtain rfl := (List.cons.inj e1).1
  exact ⟨(x0, x1), rfl⟩
def stoneR (i : Nat) (_ : World) (cs : List Value) : Prop := match i with
 | 0 => ∃ x, cs = [.int .i64 x] ∧ (Lit.int .i64 x).wf = true
 | 1 => ∃ x, cs = [.int .i64 x] ∧ (Lit.int .i64 x).wf = true
 | 2 => ∃ p : Int × Int, cs = [.int .i64 p.1, .int .i64 p.2]
 | _ => True
theorem el_stone : ElC Tryz.prog enc 60 (fun _ cs => ∃ s : St, cs = eT s) := by
 refine (elStruct (Rs := stoneR) Tryz.underlying60 (fun i f hi => ?_)).imp fun _ cs ⟨hl, h⟩ => ?_
 ·rcases i with _ | _ | _ | i
  ·obtain rfl := Option.some.inj hi; exact el_int
  ·obtain rfl := Option.some.inj hi; exact el_int
  ·obtain rfl := Option.some.inj hi; exact el_spot
  ·cases hi
 ·rw [show Tryz.prog.cellsOf 60 = 4 by kernel_rfl] at hl
  obtain ⟨c_0, c_1, c_2, c_3, rfl⟩ : ∃ c_0 c_1 c_2 c_3, cs = [c_0, c_1, c_2, c_3] := by
   match cs, hl with
   | [c_0, c_1, c_2, c_3], _ => exact ⟨_, _, _, _, rfl⟩
  have f0 := fld (c := [c_0]) h 0 rfl (show Tryz.prog.cellsOf _ = 1 by kernel_rfl) rfl
  have f1 := fld (c := [c_1]) h 1 rfl (show Tryz.prog.cellsOf _ = 1 by kernel_rfl) rfl
  have f2 := fld (c := [c_2, c_3]) h 2 rfl (show Tryz.prog.cellsOf _ = 2 by kernel_rfl) rfl
  obtain ⟨x0, e0, -⟩ := f0
  obtain rfl := (List.cons.inj e0).1
  obtain ⟨x1, e1, -⟩ := f1
  obtain rfl := (List.cons.inj e1).1
  obtain ⟨⟨px, py⟩, e2⟩ := f2
  obtain ⟨rfl, e3⟩ := List.cons.inj e2
  obtain rfl := (List.cons.inj e3).1
  exact ⟨⟨x0, x1, px, py⟩, rfl⟩
theorem el_stones : ElC Tryz.prog enc 22 (fun W cs => ∃ p : Dv St, cs = [p.v] ∧ Arr 4 eT W p.v p.l ∧ p.n = p.l.length) := (elRow (wf := fun _ _ => True) Tryz.underlying22 (by kernel_rfl) ET (by decide) (el_stone.imp fun _ _ ⟨x, h⟩ => ⟨x, h, trivial⟩)).imp fun _ _ ⟨p, h1, h2, h3, _⟩ => ⟨p, h1, h2, h3⟩
/-- A parameter's reading again, behind the call. -/
abbrev Again (W : World) (t : TypeId) (v : Value) (d : DataW H) (p : List MemPlace) (enc : TypeId × Value → H) : Prop := ∀ W' : World, Below W.heap.size W W' → ∀ sp : Nat → Bool, (∀ q ∈ p, sp q.block = true) → DataW.Trod enc Tryz.prog W' 0 sp true t v d p
variable {W : World} {base : Nat} {v : Value} {d : DataW H} {p : List MemPlace}
theorem open_stones (hv : Value.okWide Tryz.prog W .any base 22 v) (h : DataW.Trod enc Tryz.prog W 0 (fun _ => true) true 22 v d p) : ∃ (A : Option Addr) (l : List St) (c : Nat), v = .slice A l.length c ∧ Arr 4 eT W (.slice A l.length c) l ∧ Again W 22 v d p enc := by
 obtain ⟨a, n, k, rfl⟩ := okWide_slice Tryz.underlying22 hv
 obtain ⟨⟨⟨A, m, c, l⟩, e, h1, hn⟩, h3⟩ := el_stones.trod h
 obtain ⟨rfl, rfl, rfl⟩ : a = A ∧ n = m ∧ k = c := by simpa [Value.cells] using e
 dsimp only at hn; subst hn
 exact ⟨_, l, _, rfl, h1, h3⟩
end
theorem TopCount_walk (l : List St) (A : Option Addr) (c : Nat) (w : World) (hrow : Arr 4 eT w (.slice A l.length c) l) : Calls Tryz.prog 3 #[.slice A l.length c] w (Back (.bool true) w) := TopCount_law l _ w hrow
end Go.Proofs.YtmcpnoailbmkkaaGreat
