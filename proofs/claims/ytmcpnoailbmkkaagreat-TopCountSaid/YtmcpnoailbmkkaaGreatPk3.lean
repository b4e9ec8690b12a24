/- Layers of the proofs, joined: Re Rf Rg Rh G12 G13 G14 G15 G16 Ta Tb Tc Td Te R8 G17 G18 G19 G20 G21 G22 G23. -/
import Derived.Test.YtmcpnoailbmkkaaGreatPk2
import Derived.Lib.UnsafeStr
import Derived.Lib.AppendStr
import Derived.Lib.MakeNoZero
import Derived.Laws.IdiomCopy
import Derived.Lib.SliceRun
import Derived.ProofKit
import Derived.OpenShut
import Derived.Deep.Slices
import Derived.Deep.Strs
import Derived.ChangeSame
import Derived.ChangeMaps5
/- Layer 2: pairs, Overlap. -/
namespace Go.Proofs.YtmcpnoailbmkkaaGreat
open Go Go.RowKit Go.Proofs
attribute [local irreducible] J JQ JL JA JD

section
variable {P : Program} {n : Nat} {B : Bs} {l : Sl} {H : List It} {o : Oper} {t : TypeId} {x : Operand}
theorem vHoldP {α : Type} {enc : α → List Value} {k m i b p j : Nat} {L : List α} {cs : List Value} [g : Agg P t true] [z : Siz P t m] (ho : o.op = .load t x) (hx : evl l x = some (.pointer (some ⟨b, p + j * k + i, none⟩))) (hm : ¬ B.m b) (hc : HoldL k enc B.w b p L) (hj : j < L.length) (hl : cs.length = m) (hi : i + m ≤ k) (hv : ((enc (L[j]'hj)).drop i).take m = cs) : RV P n B l H o (.agg cs.toArray) :=
 rv_oldagg ho hx g.h (by rw [hl]; exact z.h) hm (fun q v hq => by
  have hqm : q < m := by rw [← hl]; exact (List.getElem?_eq_some_iff.1 hq).1
  have h1 := hc j hj (i + q) (by omega)
  rw [show p + j * k + i + q = p + j * k + (i + q) by omega, h1]
  rw [← hv, List.getElem?_take, if_pos hqm, List.getElem?_drop] at hq
  exact hq)
theorem vOldC {b off : Nat} {cs vs : List Value} {ty : TypeId} [g : Agg P t true] [z : Siz P t cs.length] (ho : o.op = .load t x) (hx : evl l x = some (.pointer (some ⟨b, off, none⟩))) (hm : ¬ B.m b) (hc : (cellB b vs ty).holds B.w) (hv : (vs.drop off).take cs.length = cs) : RV P n B l H o (.agg cs.toArray) :=
 rv_oldagg ho hx g.h z.h hm (fun q v hq => cellB_get hc (by
  have hqm : q < cs.length := (List.getElem?_eq_some_iff.1 hq).1
  rw [← hv, List.getElem?_take, if_pos hqm, List.getElem?_drop] at hq
  exact hq))
end
/-- A predicate of stones, as a closure. -/
def PrT (f : FuncId) (caps : Array Value) (p : St → Bool) (l : List St) (w0 : World) : Prop := ∀ x ∈ l, ∀ W, Below w0.heap.size w0 W → Calls Tryz.prog f (#[] ++ #[Stv x] ++ caps) W (Back (.bool (p x)) W)
theorem PrT.up {f : FuncId} {caps : Array Value} {p : St → Bool} {l : List St} {w w1 : World} (h : PrT f caps p l w) (hb : Below w.heap.size w w1) : PrT f caps p l w1 := fun x hx W hW => h x hx W (hb.trans (hW.mono hb.size))
set_option maxRecDepth 100000 in
set_option maxHeartbeats 4000000 in
theorem IndexFuncT (f : FuncId) (caps : Array Value) (p : St → Bool) (l : List St) (v : Value) (w : World) [hf : Cf Tryz.prog f] (hcl : PrT f caps p l w) (hrow : Arr 4 eT w v l) : Calls Tryz.prog 79 #[v, .func (.func f) #[] caps] w (Back (.int .i64 (fidx p l)) w) := by
 obtain ⟨A, cap, rfl, -, ⟨hl, -⟩, hA⟩ := hrow
 refine J_enter (fun _ => False) (vs := [.slice A l.length cap, .func (.func f) #[] caps]) (k := 17) (l := [(0, .slice A l.length cap), (1, .func (.func f) #[] caps)]) Tryz.func79 rfl rfl Tryz.ntmps79 rfl rfl (Wd.start _) ?_
 refine s14 ?_
 refine xL (T := Nat) (fun k => k ≤ l.length ∧ ∀ j (hj : j < l.length), j < k → p (l[j]'hj) = false) (fun k => [(0, .slice A l.length cap), (1, .func (.func f) #[] caps), (7, .int .i64 (l.length : Nat)), (8, .int .i64 (k : Nat))]) (fun k => []) (fun k => l.length - k) 0 ⟨Nat.zero_le _, fun j _ h => absurd h (Nat.not_lt_zero _)⟩ ?_
 rintro k ⟨hk, hall⟩
 refine s3 ?_
 refine JL_dec (fun h9 => ?_) (fun h9 => ?_)
 ·refine s15 ?_
  have hltx : k < l.length := by omega
  obtain ⟨bx, qx, rfl, hh⟩ := hA (by intro e; subst e; simp at hltx)
  obtain ⟨⟨xt, xn, xx, xy⟩, hx⟩ : ∃ y, l[k]'hltx = y := ⟨_, rfl⟩
  have hmx : (⟨xt, xn, xx, xy⟩ : St) ∈ l := by rw [← hx]; exact List.getElem_mem _
  refine s5 ?_
  refine aV (vHoldA (cs := [.int .i64 xt, .int .i64 xn, .int .i64 xx, .int .i64 xy]) ET rfl rfl (fun h => h) hh hltx (by rw [hx]; rfl)) ?_
  refine aW (ow_callB (ec_val rfl rfl rfl Cf.h) rfl rfl (fun w hw => hcl (⟨xt, xn, xx, xy⟩ : St) hmx w hw.bel)) (fun _ _ => ?_)
  refine JL_bool (fun h16 => ?_) (fun h16 => ?_)
  ·refine s4 ?_
   refine kJ [(5, _)] ?_
   refine s11 ?_
   refine JR_one rfl (rr_tmp rfl) ?_
   intro w' hw
   exact ⟨by rw [fidx_at hltx (by rw [hx]; exact h16) (fun j hj => hall j (by omega) hj)], hw.bel⟩
  ·refine s6 ?_
   refine kJ [(0, _), (1, _), (7, _), (8, _)] ?_
   refine s4 ?_
   have hn : ∀ j (hj : j < l.length), j < k + 1 → p (l[j]'hj) = false := fun j hj hjk => by
    rcases Nat.lt_or_ge j k with h | h
    ·exact hall j hj h
    ·obtain rfl : j = k := by omega
     rw [hx]; exact h16
   exact xR (k + 1) ⟨by omega, hn⟩ (by omega) (hl := ⟨rfl, rfl, rfl, (congrArg some (by go_num)), trivial⟩)
 ·refine s10 ?_
  refine kJ [] ?_
  refine s5 ?_
  refine JR_one rfl (rr_tmp rfl) ?_
  intro w' hw
  exact ⟨by rw [fidx_none (fun j hj => hall j hj (by omega))], hw.bel⟩
set_option maxRecDepth 100000 in
set_option maxHeartbeats 4000000 in
theorem ov_any (a b : St) (w : World) : Calls Tryz.prog 49 #[Stv a, Stv b] w (Back (.bool (ovB a b)) w) := by
 obtain ⟨xt, xn, xx, xy⟩ := a
 obtain ⟨yt, yn, yx, yy⟩ := b
 refine J_enter (fun _ => False) (vs := [.agg #[.int .i64 xt, .int .i64 xn, .int .i64 xx, .int .i64 xy], .agg #[.int .i64 yt, .int .i64 yn, .int .i64 yx, .int .i64 yy]]) (k := 19) (l := [(0, .agg #[.int .i64 xt, .int .i64 xn, .int .i64 xx, .int .i64 xy]), (1, .agg #[.int .i64 yt, .int .i64 yn, .int .i64 yx, .int .i64 yy])]) Tryz.func49 rfl rfl Tryz.ntmps49 rfl rfl (Wd.start _) ?_
 refine s2 ?_
 refine aW (oX [_, _, _, _]) (fun b2 hb2 => ?_)
 refine aW (oX [_, _, _, _]) (fun b3 hb3 => ?_)
 refine s7 ?_
 refine aCB (fun w hw => CheckSpot_any xx xy w) ?_
 refine JL_dec (fun h7 => ?_) (fun h7 => ?_)
 ·refine s3 ?_
  refine aCB (fun w hw => CheckSpot_any yx yy w) ?_
  refine JL_dec (fun h11 => ?_) (fun h11 => ?_)
  ·refine s6 ?_
   refine aCB (fun w hw => contact_any xx xy yx yy h7 h11 w) ?_
   refine s1 ?_
   refine JL_dec (fun h19 => ?_) (fun h19 => ?_)
   ·refine s5 ?_
    refine JR_one rfl (rr_tmp rfl) ?_
    intro w' hw
    exact ⟨by congr 2; exact (decide_eq_true ⟨h7, h11, h19⟩).symm, hw.bel⟩
   ·refine s5 ?_
    refine JR_one rfl (rr_tmp rfl) ?_
    intro w' hw
    exact ⟨by congr 2; exact (decide_eq_false (fun h => h19 h.2.2)).symm, hw.bel⟩
  ·refine s13 ?_
   refine JR_one rfl (rr_tmp rfl) ?_
   intro w' hw
   exact ⟨by congr 2; exact (decide_eq_false (fun h => h11 h.2.1)).symm, hw.bel⟩
 ·refine s17 ?_
  refine JR_one rfl (rr_tmp rfl) ?_
  intro w' hw
  exact ⟨by congr 2; exact (decide_eq_false (fun h => h7 h.1)).symm, hw.bel⟩
instance : Cf Tryz.prog 49 := ⟨fun _ _ => by kernel_rfl⟩
instance : Cf Tryz.prog 80 := ⟨fun _ _ => by kernel_rfl⟩
set_option maxRecDepth 100000 in
set_option maxHeartbeats 4000000 in
theorem pair1_any (a b : St) (b3 b7 : Nat) (w : World) (h1 : (cellB b3 [.func (.func 49) #[] #[]] 108).holds w) (h2 : (cellB b7 (eT a) 60).holds w) : Calls Tryz.prog 80 (#[] ++ #[Stv b] ++ #[.pointer (some ⟨b3, 0, none⟩), .pointer (some ⟨b7, 0, none⟩)]) w (Back (.bool (ovB a b)) w) := by
 obtain ⟨xt, xn, xx, xy⟩ := a
 obtain ⟨yt, yn, yx, yy⟩ := b
 unfold eT at h2
 refine J_enter (fun _ => False) (vs := [.agg #[.int .i64 yt, .int .i64 yn, .int .i64 yx, .int .i64 yy], .pointer (some ⟨b3, 0, none⟩), .pointer (some ⟨b7, 0, none⟩)]) (k := 6) (l := [(0, .agg #[.int .i64 yt, .int .i64 yn, .int .i64 yx, .int .i64 yy]), (1, .pointer (some ⟨b3, 0, none⟩)), (2, .pointer (some ⟨b7, 0, none⟩))]) Tryz.func80 rfl rfl Tryz.ntmps80 rfl rfl (Wd.start _) ?_
 refine s2 ?_
 refine aW (oX [_, _, _, _]) (fun b3 hb3 => ?_)
 refine s5 ?_
 refine aV (vOld rfl rfl (fun h => h) (cellB_get h1 rfl)) ?_
 refine aV (vOldC (cs := [.int .i64 xt, .int .i64 xn, .int .i64 xx, .int .i64 xy]) rfl rfl (fun h => h) h2 rfl) ?_
 refine s1 ?_
 refine aW (ow_callB (ec_val rfl rfl rfl Cf.h) rfl rfl (fun w hw => ov_any (⟨xt, xn, xx, xy⟩ : St) (⟨yt, yn, yx, yy⟩ : St) w)) (fun _ _ => ?_)
 refine s4 ?_
 refine JR_one rfl (rr_tmp rfl) ?_
 intro w' hw
 exact ⟨rfl, hw.bel⟩
theorem pair_pos {l : List St} {k : Nat} (hk : k < l.length) (hall : pairF ovB l 0 = pairF ovB (l.drop k) k) (h : 0 ≤ fidx (ovB (l[k]'hk)) (l.drop (k + 1))) : pairF ovB l 0 = ((k : Int), (k : Int) + 1 + fidx (ovB (l[k]'hk)) (l.drop (k + 1))) := by
 rw [hall, pairF_step hk, if_pos h]
theorem pair_neg {l : List St} {k : Nat} (hk : k < l.length) (hall : pairF ovB l 0 = pairF ovB (l.drop k) k) (h : ¬ 0 ≤ fidx (ovB (l[k]'hk)) (l.drop (k + 1))) : pairF ovB l 0 = pairF ovB (l.drop (k + 1)) (k + 1) := by
 rw [hall, pairF_step hk, if_neg h]
theorem fidx_le {α : Type} (p : α → Bool) (l : List α) : -1 ≤ fidx p l ∧ fidx p l ≤ l.length := by unfold fidx; split <;> omega
set_option maxRecDepth 100000 in
set_option maxHeartbeats 4000000 in
theorem pair_any (l : List St) (v : Value) (w : World) (hrow : Arr 4 eT w v l) (hl9 : l.length ≤ 1000000) : Calls Tryz.prog 48 #[v, .func (.func 49) #[] #[]] w (Back (.tuple #[.int .i64 (pairF ovB l 0).1, .int .i64 (pairF ovB l 0).2]) w) := by
 have hrow0 := hrow
 obtain ⟨A, cap, rfl, -, ⟨hl, -⟩, hA⟩ := hrow
 refine J_enter (fun _ => False) (vs := [.slice A l.length cap, .func (.func 49) #[] #[]]) (k := 28) (l := [(0, .slice A l.length cap), (1, .func (.func 49) #[] #[])]) Tryz.func48 rfl rfl Tryz.ntmps48 rfl rfl (Wd.start _) ?_
 refine s2 ?_
 refine aW (oX [_]) (fun b3 hb3 => ?_)
 refine s13 ?_
 refine xL (T := Nat) (fun k => k ≤ l.length ∧ pairF ovB l 0 = pairF ovB (l.drop k) k) (fun k => [(0, .slice A l.length cap), (3, .pointer (some ⟨b3, 0, none⟩)), (9, .slice A l.length cap), (10, .int .i64 (l.length : Nat)), (11, .int .i64 (k : Nat))]) (fun k => [cellB b3 [.func (.func 49) #[] #[]] 108]) (fun k => l.length - k) 0 ⟨Nat.zero_le _, rfl⟩ ?_
 rintro k ⟨hk, hall⟩
 refine s3 ?_
 refine JL_dec (fun h12 => ?_) (fun h12 => ?_)
 ·refine s9 ?_
  have hltx : k < l.length := by omega
  obtain ⟨bx, qx, rfl, hh⟩ := hA (by intro e; subst e; simp at hltx)
  obtain ⟨⟨xt, xn, xx, xy⟩, hx⟩ : ∃ y, l[k]'hltx = y := ⟨_, rfl⟩
  have hmx : (⟨xt, xn, xx, xy⟩ : St) ∈ l := by rw [← hx]; exact List.getElem_mem _
  refine s3 ?_
  refine aV (vHoldA (cs := [.int .i64 xt, .int .i64 xn, .int .i64 xx, .int .i64 xy]) ET rfl rfl (fun h => h) hh hltx (by rw [hx]; rfl)) ?_
  refine aW oA (fun b7 hb7 => ?_)
  refine s5 ?_
  refine kJ [(0, _), (3, _), (6, _), (7, _), (9, _), (10, _), (11, _)] ?_
  refine s4 ?_
  refine aP (rp_sliceFrom (k := k + 1) rfl rfl rfl Und.h Siz.h (by go_num) (by omega)) ?_
  refine s1 ?_
  refine aCB (fun w hw => (IndexFuncT 80 _ (ovB (⟨xt, xn, xx, xy⟩ : St)) (l.drop (k + 1)) _ w (fun y hy W hW => pair1_any (⟨xt, xn, xx, xy⟩ : St) y b3 b7 W ((hw.up hW).ok (cellB b3 [.func (.func 49) #[] #[]] 108) (by repeat constructor)).1 ((hw.up hW).ok (cellB b7 (eT (⟨xt, xn, xx, xy⟩ : St)) 60) (by repeat constructor)).1) ((hrow0.up ET hw.bel).drop (by omega))).mono (fun _ _ h => h)) ?_
  have hfl := fidx_le (ovB (⟨xt, xn, xx, xy⟩ : St)) (l.drop (k + 1))
  rw [List.length_drop] at hfl
  refine s4 ?_
  refine kJ [(0, _), (3, _), (6, _), (8, _), (9, _), (10, _), (11, _)] ?_
  refine s3 ?_
  refine JL_dec (fun h23 => ?_) (fun h23 => ?_)
  ·refine s4 ?_
   refine kJ [(6, _), (8, _)] ?_
   refine s16 ?_
   refine JR_two rfl (rr_tmp rfl) (rr_tmp rfl) ?_
   intro w' hw
   exact ⟨by rw [pair_pos hltx hall (by rw [hx]; omega), hx], hw.bel⟩
  ·refine s6 ?_
   refine kJ [(0, _), (3, _), (9, _), (10, _), (11, _)] ?_
   refine s4 ?_
   have hn := pair_neg hltx hall (by rw [hx]; omega)
   exact xR (k + 1) ⟨by omega, hn⟩ (by omega) (hl := ⟨rfl, rfl, rfl, rfl, (congrArg some (by go_num)), trivial⟩)
 ·refine s10 ?_
  refine kJ [] ?_
  refine s6 ?_
  refine JR_two rfl (rr_tmp rfl) (rr_tmp rfl) ?_
  intro w' hw
  obtain rfl : k = l.length := by omega
  rw [List.drop_length] at hall
  exact ⟨by rw [hall]; rfl, hw.bel⟩
end Go.Proofs.YtmcpnoailbmkkaaGreat
/- Layer 2: Overlap, Find, Check (document). -/
namespace Go.Proofs.YtmcpnoailbmkkaaGreat
open Go Go.RowKit Go.Proofs
attribute [local irreducible] J JQ JL JA JD

set_option maxRecDepth 100000 in
set_option maxHeartbeats 4000000 in
theorem Overlap_any (l : List St) (v : Value) (w : World) (hrow : Arr 4 eT w v l) (hl9 : l.length ≤ 1000000) : Calls Tryz.prog 24 #[v] w (Back (.tuple #[.int .i64 (pairF ovB l 0).1, .int .i64 (pairF ovB l 0).2]) w) := by
 have hrow0 := hrow
 obtain ⟨A, cap, rfl, -, ⟨hl, -⟩, hA⟩ := hrow
 refine J_enter (fun _ => False) (vs := [.slice A l.length cap]) (k := 7) (l := [(0, .slice A l.length cap)]) Tryz.func24 rfl rfl Tryz.ntmps24 rfl rfl (Wd.start _) ?_
 refine s9 ?_
 refine aCB (fun w hw => pair_any l _ w (hrow0.up ET hw.bel) hl9) ?_
 refine s7 ?_
 refine JR_two rfl (rr_tmp rfl) (rr_tmp rfl) ?_
 intro w' hw
 exact ⟨rfl, hw.bel⟩
end Go.Proofs.YtmcpnoailbmkkaaGreat
/- Layer 2: Check (document). -/
namespace Go.Proofs.YtmcpnoailbmkkaaGreat
open Go Go.RowKit Go.Proofs
attribute [local irreducible] J JQ JL JA JD

theorem good_n1 {l : List St} {k : Nat} {x : St} (hk : k < l.length) (hx : l[k]'hk = x) (h : goodF [] l = goodF (l.take k) (l.drop k)) (h1 : ¬ okSt x) : chkB l = false := by
 unfold chkB
 rw [h, goodF_step hk, hx, decide_eq_false h1]; simp
theorem good_e {l : List St} (h16 : l.length ≤ 16) (h : goodF [] l = goodF (l.take l.length) (l.drop l.length)) : chkB l = decide ((pairF ovB l 0).1 < 0) := by
 unfold chkB
 rw [h, List.drop_length, decide_eq_true h16]
 show (true && true && _) = _
 rfl
theorem chk_big {l : List St} (h : ¬ l.length ≤ 16) : chkB l = false := by unfold chkB; rw [decide_eq_false h]; rfl
end Go.Proofs.YtmcpnoailbmkkaaGreat
/- Layer 2: names as keys; Check. -/
namespace Go.Proofs.YtmcpnoailbmkkaaGreat
open Go Go.RowKit Go.Proofs
attribute [local irreducible] J JQ JL JA JD

/-- A stone's name, as a key. -/
def kN (p : Int × Int) : Value := .agg #[.int .i64 p.1, .int .i64 p.2]
def okN2 (p : Int × Int) : Prop := W64 p.1 ∧ W64 p.2
theorem laidOut : laidOutB Tryz.prog = true := by kernel_rfl
theorem row66 : (66 : TypeId) < Tryz.prog.types.size := of_decide_eq_true (by kernel_rfl)
theorem cells66 : Tryz.prog.cellsOf 66 = 2 := by kernel_rfl
theorem KNS : KeyL Tryz.prog 66 kN okN2 where
 law := Go.Maps.Keyed.of_law (deep_law_laid laidOut (m := 2) (by omega) row66 (by kernel_rfl) (by kernel_rfl))
 key := fun p hp => by
  obtain ⟨x, y⟩ := p
  have h1 := wf64 hp.1
  have h2 := wf64 hp.2
  have hk : Tryz.prog.keyType 66 = true := by kernel_rfl
  have hf : (kN (x, y)).formed Tryz.prog 66 = true := by simp [kN, Value.formed, Tryz.underlying66, cells66]
  have hc3 : Tryz.prog.cellsOf 3 = 1 := by kernel_rfl
  obtain ⟨n, hn⟩ : ∃ n, Tryz.prog.types.size = n + 1 := ⟨206, by kernel_rfl⟩
  unfold keyOf
  rw [Tryz.underlying66]
  simp only [hk, hf, hn, Bool.and_self, if_true]
  refine ⟨.string (keyBytes [.int .i64 x, .int .i64 y]), ?_⟩
  rw [Option.map_eq_some_iff]
  refine ⟨[.int .i64 x, .int .i64 y], ?_, rfl⟩
  dsimp only at h1 h2
  simp [kN, Program.keyLits, Tryz.underlying66, Tryz.underlying3, cells66, hc3, h1, h2, Value.cells]
 inj := fun x y h => by
  obtain ⟨x1, x2⟩ := x
  obtain ⟨y1, y2⟩ := y
  simpa [kN] using h
theorem good_sN {l : List St} {k : Nat} {x : St} (hk : k < l.length) (hx : l[k]'hk = x) (h : goodF [] l = goodF (l.take k) (l.drop k)) (h1 : okSt x) (h2 : (x.t, x.n) ∉ namesR (l.take k)) : goodF [] l = goodF (l.take (k + 1)) (l.drop (k + 1)) := by
 rw [h, goodF_step hk, hx, decide_eq_true h1, names_all, decide_eq_false h2]; rfl
theorem good_nN {l : List St} {k : Nat} {x : St} (hk : k < l.length) (hx : l[k]'hk = x) (h : goodF [] l = goodF (l.take k) (l.drop k)) (h2 : (x.t, x.n) ∈ namesR (l.take k)) : chkB l = false := by
 unfold chkB
 rw [h, goodF_step hk, hx, names_all, decide_eq_true h2]; simp
theorem names_s {l : List St} {k : Nat} {x : St} (hk : k < l.length) (hx : l[k]'hk = x) : namesR (l.take (k + 1)) = (x.t, x.n) :: namesR (l.take k) := by
 rw [List.take_succ_eq_append_getElem hk, namesR_snoc, hx]
@[reducible] instance (priority := high) beqNN : BEq (Int × Int) := instBEqOfDecidableEq
set_option maxRecDepth 100000 in
set_option maxHeartbeats 4000000 in
theorem Check_any (l : List St) (v : Value) (w : World) (hrow : Arr 4 eT w v l) : Calls Tryz.prog 7 #[v] w (Back (.bool (chkB l)) w) := by
 have hrow0 := hrow
 obtain ⟨A, cap, rfl, -, ⟨hl, -⟩, hA⟩ := hrow
 refine J_enter (fun _ => False) (vs := [.slice A l.length cap]) (k := 60) (l := [(0, .slice A l.length cap)]) Tryz.func7 rfl rfl Tryz.ntmps7 rfl rfl (Wd.start _) ?_
 refine s11 ?_
 refine JL_dec (fun h11 => ?_) (fun h11 => ?_)
 ·refine s4 ?_
  refine kJ [] ?_
  refine s6 ?_
  refine JR_one rfl (rr_tmp rfl) ?_
  intro w' hw
  exact ⟨by rw [chk_big (by omega)], hw.bel⟩
 ·refine s6 ?_
  refine kJ [(0, _)] ?_
  refine s1 ?_
  refine aW (ow_makeSet (kt := 66) (kv := kN) (ok := okN2) rfl rfl rfl (fun _ => by kernel_rfl)) (fun b12 hb12 => ?_)
  refine s12 ?_
  refine xL (T := Nat) (fun k => k ≤ l.length ∧ goodF [] l = goodF (l.take k) (l.drop k)) (fun k => [(0, .slice A l.length cap), (3, .map (some b12)), (13, .slice A l.length cap), (14, .int .i64 (l.length : Nat)), (15, .int .i64 (k : Nat))]) (fun k => [setB Tryz.prog 66 kN okN2 b12 (namesR (l.take k))]) (fun k => l.length - k) 0 ⟨Nat.zero_le _, rfl⟩ ?_ (hH := by (try dsimp only); rw [show namesR (l.take 0) = [] from rfl]; repeat constructor)
  rintro k ⟨hk, hall⟩
  refine s3 ?_
  refine JL_dec (fun h16 => ?_) (fun h16 => ?_)
  ·refine s9 ?_
   have hltx : k < l.length := by omega
   obtain ⟨bx, qx, rfl, hh⟩ := hA (by intro e; subst e; simp at hltx)
   obtain ⟨⟨xt, xn, xx, xy⟩, hx⟩ : ∃ y, l[k]'hltx = y := ⟨_, rfl⟩
   have hmx : (⟨xt, xn, xx, xy⟩ : St) ∈ l := by rw [← hx]; exact List.getElem_mem _
   refine s2 ?_
   refine aV (vHoldA (cs := [.int .i64 xt, .int .i64 xn, .int .i64 xx, .int .i64 xy]) ET rfl rfl (fun h => h) hh hltx (by rw [hx]; rfl)) ?_
   refine aW oA (fun b5 hb5 => ?_)
   refine s9 ?_
   refine aP (rp_buildC (fun us => [us.getD 0 undef, us.getD 1 undef]) rfl rfl (fun w => by kernel_rfl)) ?_
   refine aW oA (fun b6 hb6 => ?_)
   refine s5 ?_
   refine kJ [(0, _), (3, _), (5, _), (6, _), (13, _), (14, _), (15, _)] ?_
   refine s3 ?_
   refine aCB (fun w hw => swithin _ _ _ w) ?_
   refine JL_dec (fun h26 => ?_) (fun h26 => ?_)
   ·refine s4 ?_
    refine aCB (fun w hw => swithin _ _ _ w) ?_
    refine JL_dec (fun h31 => ?_) (fun h31 => ?_)
    ·refine s5 ?_
     refine aCB (fun w hw => CheckSpot_any xx xy w) ?_
     refine JL_dec (fun h37 => ?_) (fun h37 => ?_)
     ·refine s5 ?_
      refine aCB (fun w hw => zone_any xx xy h37 w) ?_
      refine s1 ?_
      refine JL_dec (fun h44 => ?_) (fun h44 => ?_)
      ·refine s10 ?_
       refine kJ [] ?_
       refine s11 ?_
       refine JR_one rfl (rr_tmp rfl) ?_
       intro w' hw
       exact ⟨by rw [good_n1 hltx hx hall (fun h => (zone_away _ _).1 h44 h.2.2)], hw.bel⟩
      ·refine s4 ?_
       refine aV (rv_lookS KNS LBool (xt, xn) Und.h rfl rfl rfl (by repeat constructor) rfl ⟨by unfold W64; dsimp only; omega, by unfold W64; dsimp only; omega⟩) ?_
       refine JL_dec (fun h49 => ?_) (fun h49 => ?_)
       ·refine s5 ?_
        refine kJ [] ?_
        refine s11 ?_
        refine JR_one rfl (rr_tmp rfl) ?_
        intro w' hw
        exact ⟨by rw [good_nN hltx hx hall h49], hw.bel⟩
       ·refine s6 ?_
        refine kJ [(0, _), (3, _), (6, _), (13, _), (14, _), (15, _)] ?_
        refine s3 ?_
        refine aW0 (ow_putS KNS LBool (xt, xn) Und.h rfl rfl rfl rfl rfl rfl rfl (by repeat constructor) ⟨by unfold W64; dsimp only; omega, by unfold W64; dsimp only; omega⟩ (by rw [namesR_len, List.length_take]; omega)) ?_
        refine s7 ?_
        have hn := good_sN hltx hx hall ⟨⟨h26, h31⟩, h37, (Decidable.not_not.1 (fun h => h44 ((zone_away _ _).2 h)))⟩ h49
        have hs := names_s hltx hx
        dsimp only at hs
        exact xR (k + 1) ⟨by omega, hn⟩ (by omega) (hl := ⟨rfl, rfl, rfl, rfl, (congrArg some (by go_num)), trivial⟩) (hH := by (try dsimp only); rw [hs]; repeat constructor)
     ·refine s17 ?_
      refine kJ [] ?_
      refine s11 ?_
      refine JR_one rfl (rr_tmp rfl) ?_
      intro w' hw
      exact ⟨by rw [good_n1 hltx hx hall (fun h => h37 h.2.1)], hw.bel⟩
    ·refine s23 ?_
     refine kJ [] ?_
     refine s11 ?_
     refine JR_one rfl (rr_tmp rfl) ?_
     intro w' hw
     exact ⟨by rw [good_n1 hltx hx hall (fun h => h31 h.1.2)], hw.bel⟩
   ·refine s28 ?_
    refine kJ [] ?_
    refine s11 ?_
    refine JR_one rfl (rr_tmp rfl) ?_
    intro w' hw
    exact ⟨by rw [good_n1 hltx hx hall (fun h => h26 h.1.1)], hw.bel⟩
  ·refine s10 ?_
   refine kJ [(0, _)] ?_
   refine s2 ?_
   refine aCB (fun w hw => Overlap_any l _ w (hrow0.up ET hw.bel) (by omega)) ?_
   refine s8 ?_
   refine kJ [(7, _)] ?_
   refine s7 ?_
   refine JR_one rfl (rr_tmp rfl) ?_
   intro w' hw
   obtain rfl : k = l.length := by omega
   exact ⟨by rw [good_e (by omega) hall], hw.bel⟩
end Go.Proofs.YtmcpnoailbmkkaaGreat
/- The walk by live slots: two items as one; rows of bytes: strings.Builder's operations. Over any program. -/
namespace Go.Proofs.YtmcpnoailbmkkaaGreat
open Go Go.RowKit Go.Proofs
section
variable {P : Program} {n : Nat} {B : Bs} {l : Sl} {H H' : List It} {o : Oper}
/-- A store into an element of a row of our own. -/
theorem oStE {α : Type} {k : Nat} {enc : α → List Value} (E : Enc k enc) {t ty : TypeId} {x y : Operand} {b j i m c kk : Nat} {L : List α} {v : Value} (cs : List Value) (r : α) [z : Siz P t kk] (hj : j < L.length) (ho : o.op = .store t x y := by rfl) (hd : o.dst = none := by rfl) (hx : evl l x = some (.pointer (some ⟨b, 0 + j * k + i, none⟩)) := by rfl) (hy : evl l y = some v := by rfl) (hcs : v.cells = cs.toArray := by rfl) (hkk : cs.length = kk := by rfl) (h1 : cs.all (·.oneCell') = true := by rfl)
  (hat : At (ownB ty k (some ⟨b, 0, none⟩) m c (L.flatMap enc)) (ownB ty k (some ⟨b, 0, none⟩) m c ((L.set j r).flatMap enc)) H H' := by repeat constructor) (hi : i + cs.length ≤ k := by decide) (hr : enc r = (enc (L[j]'hj)).take i ++ cs ++ (enc (L[j]'hj)).drop (i + cs.length) := by rfl) :
  OpW P n B (some (ownB ty k (some ⟨b, 0, none⟩) m c (L.flatMap enc))) l H o (fun _ : Unit => True) (fun _ => l) (fun _ => H') := ow_storeE E r ho hd hx hy hcs (by rw [hkk]; exact z.h) h1 hat hj hi hr
/-! Rows of bytes. -/
end
end Go.Proofs.YtmcpnoailbmkkaaGreat
/- Parameters: what their reading gives, and that they are read again as they were. Over any program. -/
namespace Go.Proofs.YtmcpnoailbmkkaaGreat
open Go Go.ChangeShapes Go.WideShapes Go.ChangeAt Go.RowKit Go.Deep
section
variable {P : Program} {H : Type} {enc : TypeId × Value → H}
/-- What an element's reading gives, by its cells. -/
def ElC (P : Program) (enc : TypeId × Value → H) (e : TypeId) (R : World → List Value → Prop) : Prop :=
 ∀ (W : World) (n : Nat) (cs : List Value) (y : DataW H × List MemPlace), DataW.trod enc P W 0 (fun _ => true) true n e cs = some y → R W cs ∧ ∀ W' : World, Below W.heap.size W W' → ∀ sp : Nat → Bool, (∀ q ∈ y.2, sp q.block = true) → ∃ m, DataW.trod enc P W' 0 sp true m e cs = some y
theorem elInt {e : TypeId} {k : IntKind} (ht : P.underlying e = some (.int k)) : ElC P enc e (fun _ cs => ∃ x, cs = [.int k x] ∧ (Lit.int k x).wf = true) := fun W n cs y h => by
 obtain ⟨x, rfl, rfl, w⟩ := DataW.trod_int ht h
 exact ⟨⟨x, rfl, w⟩, fun W' _ sp _ => ⟨1, by simp [DataW.trod, ht, w]⟩⟩
theorem ElC.imp {e : TypeId} {R R' : World → List Value → Prop} (h : ElC P enc e R) (hr : ∀ W cs, R W cs → R' W cs) : ElC P enc e R' := fun W n cs y hy => ⟨hr _ _ (h W n cs y hy).1, (h W n cs y hy).2⟩
theorem cells_below {W W' : World} (hb : Below W.heap.size W W') {b n : Nat} {a : Addr} {cs : List Value} (h : W.cells? b a n = some cs) (ha : a.block < W.heap.size) : W'.cells? b a n = some cs := by
 have e : ∀ i, W'.cell? (a.add i) = W.cell? (a.add i) := fun i => by
  have hbk : (a.add i).block = a.block := by unfold Addr.add; split <;> rfl
  exact World.cell?_of_block (by rw [hbk]; exact hb.block _ ha)
 unfold World.cells? at h ⊢
 simp only [e]
 exact h
theorem cell_spot {W : World} {a : Addr} {v : Value} (h : W.cell? a = some v) : a.spot = none ∧ a.block < W.heap.size := by
 unfold World.cell? at h
 split at h
 ·rename_i c t fz hh
  split at h
  ·cases h
  ·rename_i hs
   exact ⟨by simpa using hs, (Array.getElem?_eq_some_iff.1 hh).1⟩
 ·cases h
theorem add_mod (a : Addr) (i j : Nat) : (a.add i).add j = a.add (i + j) := by
 unfold Addr.add
 by_cases h1 : i = 0
 ·by_cases h2 : j = 0 <;> simp [h1, h2]
 ·by_cases h2 : j = 0
  ·simp [h1, h2]
  ·simp [h1, h2, Nat.add_assoc]
/-- A slice whose elements are of k cells. -/
theorem elRow {α : Type} {t e k : Nat} {ec : α → List Value} {wf : World → α → Prop} (ht : P.underlying t = some (.slice e)) (hsz : P.cellsOf e = k) (E : Enc k ec) (h0k : 0 < k) (he : ElC P enc e (fun W cs => ∃ x, cs = ec x ∧ wf W x)) :
  ElC P enc t (fun W cs => ∃ p : Dv α, cs = [p.v] ∧ Arr k ec W p.v p.l ∧ p.n = p.l.length ∧ ∀ x ∈ p.l, wf W x) := fun W n cs y h => by
 rcases open_slice ht h with ⟨rfl, rfl⟩ | ⟨a, len, cap, m, n', D, Pl, rfl, hb, hl, hm, hmm, rfl, hi⟩
 ·exact ⟨⟨⟨none, 0, 0, []⟩, rfl, Arr.nil W, rfl, fun _ h => by cases h⟩, fun W' _ sp _ => ⟨1, by simp [DataW.trod, ht]⟩⟩
 ·simp only [if_true] at hmm
  subst hmm
  rw [hsz] at hi
  have each : ∀ i, i < m → ∃ cs', ∃ s : α, W.cells? 0 (a.add (i * k)) k = some cs' ∧ cs' = ec s ∧ wf W s ∧ DataW.trod enc P W 0 (fun _ => true) true n' e cs' = some (D i, Pl i) := by
   intro i hic
   obtain ⟨cs', h3, h4⟩ := hi i hic
   obtain ⟨⟨s, h5, h6⟩, -⟩ := he W n' cs' _ h4
   exact ⟨cs', s, h3, h5, h6, h4⟩
  have each2 : ∀ i, i < m → ∃ s : α, W.cells? 0 (a.add (i * k)) k = some (ec s) ∧ wf W s ∧ DataW.trod enc P W 0 (fun _ => true) true n' e (ec s) = some (D i, Pl i) := fun i hic => by
   obtain ⟨cs', s, h3, rfl, h6, h4⟩ := each i hic
   exact ⟨s, h3, h6, h4⟩
  clear each
  have first : ∀ i, i < m → ∃ v, W.cell? (a.add (i * k)) = some v := by
   intro i hi
   obtain ⟨s, h3, -⟩ := each2 i hi
   have hc := (World.cells?_some h3).2.2 0 h0k
   rw [List.getElem?_eq_getElem (by rw [E.1]; exact h0k)] at hc
   exact ⟨_, by simpa [Addr.add] using hc⟩
  have re : ∀ W' : World, Below W.heap.size W W' → ∀ sp : Nat → Bool, (∀ q ∈ MemPlace.row a (m * P.cellsOf e) ++ (List.range m).flatMap Pl, sp q.block = true) → ∃ f, DataW.trod enc P W' 0 sp true f t [.slice (some a) len m] = some (.slice ((List.range len).map D) ((List.range (m - len)).map fun j => D (len + j)), MemPlace.row a (m * P.cellsOf e) ++ (List.range m).flatMap Pl) := by
   intro W' hb' sp hsp
   rcases Nat.eq_zero_or_pos m with h0 | h0
   ·subst h0
    obtain rfl : len = 0 := by omega
    cases hs : sp a.block with
    | true => exact shut_slice_whole_cells (enc := enc) (w := W') (held := true) (base := 0) (P := P) (a := a) (len := 0) (cap := 0) ht (Nat.zero_le _) (Nat.le_refl _) (Nat.zero_le _) hs D Pl (fun i hi => absurd hi (Nat.not_lt_zero _))
    | false =>
     have := shut_slice_cells (enc := enc) (w := W') (held := true) (base := 0) (P := P) (a := a) (len := 0) (cap := 0) ht (Nat.zero_le _) (Nat.le_refl _) (Nat.zero_le _) hs D Pl (fun i hi => absurd hi (Nat.not_lt_zero _))
     simpa using this
   ·obtain ⟨v0, c0⟩ := first 0 h0
    have hblk := (cell_spot (by simpa [Addr.add] using c0)).2
    have hs : sp a.block = true := hsp (.cell a.block (a.off + 0)) (by
     unfold MemPlace.row
     simp only [List.mem_append, List.mem_map, List.mem_range]
     exact .inl ⟨0, by rw [hsz]; exact Nat.mul_pos h0 h0k, rfl⟩)
    refine shut_slice_whole_cells (enc := enc) (w := W') (held := true) (base := 0) (P := P) (a := a) (len := len) (cap := m) ht (Nat.zero_le _) hl hm hs D Pl (fun i hi => ?_)
    obtain ⟨s, h3, -, h4⟩ := each2 i hi
    obtain ⟨-, hre⟩ := he W n' _ _ h4
    obtain ⟨f, hf⟩ := hre W' hb' sp (fun q hq => hsp q (List.mem_append_right _ (List.mem_flatMap.2 ⟨i, List.mem_range.2 hi, hq⟩)))
    refine ⟨ec s, f, ?_, hf⟩
    rw [hsz]
    refine cells_below hb' h3 ?_
    have : (a.add (i * k)).block = a.block := by unfold Addr.add; split <;> rfl
    rw [this]; exact hblk
  refine ⟨?_, re⟩
  have each3 : ∀ i, i < m → ∃ s : α, W.cells? 0 (a.add (i * k)) k = some (ec s) ∧ wf W s := fun i hic => by
   obtain ⟨s, h3, h4, -⟩ := each2 i hic
   exact ⟨s, h3, h4⟩
  rcases Nat.eq_zero_or_pos len with h0 | h0
  ·subst h0
   exact ⟨⟨some a, 0, m, []⟩, rfl, ⟨some a, m, rfl, Nat.zero_le _, ⟨Nat.zero_le _, hm⟩, fun h => absurd rfl h⟩, rfl, fun _ h => by cases h⟩
  ·obtain ⟨s0, -⟩ := each3 0 (by omega)
   haveI : Inhabited α := ⟨s0⟩
   obtain ⟨S, hS⟩ := choose_lt each3
   obtain ⟨v0, c0⟩ := first 0 (by omega)
   have hsp := (cell_spot (by simpa [Addr.add] using c0)).1
   obtain ⟨b, o, sp⟩ := a
   simp only at hsp
   subst hsp
   refine ⟨⟨some ⟨b, o, none⟩, len, m, (List.range len).map S⟩, rfl, ⟨some ⟨b, o, none⟩, m, by simp, by simpa using hl, ⟨by simp only [List.length_map, List.length_range]; unfold maxLen at hm; omega, hm⟩, fun hne => ⟨b, o, rfl, fun j hj i hi => ?_⟩⟩, by simp, fun x hx => ?_⟩
   ·have hj' : j < len := by simpa using hj
    have hc := (World.cells?_some (hS j (by omega)).1).2.2
    have e : ((List.range len).map S)[j]'hj = S j := by simp
    rw [e, ← hc i hi, add_mod]
    unfold Addr.add
    by_cases h0 : j * k + i = 0
    ·rw [if_pos h0]; have h1 : j * k = 0 := by omega
     have : i = 0 := by omega
     subst this; rw [h1]; rfl
    ·rw [if_neg h0, Nat.add_assoc]
   ·obtain ⟨i, hi, rfl⟩ := List.mem_map.1 hx
    exact (hS i (by have := List.mem_range.1 hi; omega)).2
/-- A struct, by its fields. -/
theorem elStruct {t : TypeId} {fs : Array Field} {Rs : Nat → World → List Value → Prop} (ht : P.underlying t = some (.struct fs)) (hf : ∀ (i : Nat) (f : Field), fs[i]? = some f → ElC P enc f.type (Rs i)) :
  ElC P enc t (fun W cs => cs.length = P.cellsOf t ∧ ∀ (i : Nat) (f : Field), fs[i]? = some f → Rs i W ((cs.drop f.offset).take (P.cellsOf f.type))) := fun W n cs y h => by
 obtain ⟨xs, m, -, rfl, hl, hxl, hx⟩ := DataW.trod_struct ht h
 have hxi : ∀ (i : Nat) (f : Field), fs[i]? = some f → ∃ yi, xs[i]? = some yi := fun i f hi => by
  have hlt : i < fs.size := (Array.getElem?_eq_some_iff.1 hi).1
  exact ⟨_, List.getElem?_eq_getElem (by omega)⟩
 refine ⟨⟨hl, fun i f hi => ?_⟩, fun W' hb sp hsp => ?_⟩
 ·obtain ⟨yi, hyi⟩ := hxi i f hi
  exact (hf i f hi W m _ yi (by rw [hx i f hi, hyi])).1
 ·have hre : ∀ i, i < fs.size → ∃ q, ∀ f, fs[i]? = some f → DataW.trod enc P W' 0 sp true q f.type ((cs.drop f.offset).take (P.cellsOf f.type)) = xs[i]? := fun i hi => by
   have hfi : fs[i]? = some (fs[i]'hi) := Array.getElem?_eq_getElem hi
   obtain ⟨yi, hyi⟩ := hxi i _ hfi
   obtain ⟨q, hq⟩ := (hf i _ hfi W m _ yi (by rw [hx i _ hfi, hyi])).2 W' hb sp (fun q hq => hsp q (List.mem_flatMap.2 ⟨yi, List.mem_of_getElem? hyi, hq⟩))
   exact ⟨q, fun f hf' => by rw [hfi] at hf'; cases hf'; rw [hq, hyi]⟩
  obtain ⟨Q, hQ⟩ : ∃ Q, ∀ i, i < fs.size → ∀ f, fs[i]? = some f → DataW.trod enc P W' 0 sp true Q f.type ((cs.drop f.offset).take (P.cellsOf f.type)) = xs[i]? := by
   have key : ∀ k, k ≤ fs.size → ∃ Q, ∀ i, i < k → ∀ f, fs[i]? = some f → DataW.trod enc P W' 0 sp true Q f.type ((cs.drop f.offset).take (P.cellsOf f.type)) = xs[i]? := by
    intro k
    induction k with
    | zero => exact fun _ => ⟨0, fun i hi => absurd hi (Nat.not_lt_zero _)⟩
    | succ k ih =>
     intro hk
     obtain ⟨Q1, h1⟩ := ih (by omega)
     obtain ⟨q, h2⟩ := hre k (by omega)
     refine ⟨Q1 + q, fun i hi f hf' => ?_⟩
     obtain ⟨yi, hyi⟩ := hxi i f hf'
     rw [hyi]
     by_cases e : i = k
     ·subst e
      exact DataW.trod_le (Nat.le_add_left _ _) (by rw [h2 f hf', hyi])
     ·exact DataW.trod_le (Nat.le_add_right _ _) (by rw [h1 i (by omega) f hf', hyi])
   exact key _ (Nat.le_refl _)
  refine ⟨Q + 1, trod_struct_mk ht hl ?_⟩
  have hmm : ∀ (l : List Field) (zs : List (DataW H × List MemPlace)), l.length = zs.length → (∀ (i : Nat) (f : Field), l[i]? = some f → DataW.trod enc P W' 0 sp true Q f.type ((cs.drop f.offset).take (P.cellsOf f.type)) = zs[i]?) → l.mapM (fun f : Field => DataW.trod enc P W' 0 sp true Q f.type ((cs.drop f.offset).take (P.cellsOf f.type))) = some zs := by
   intro l
   induction l with
   | nil => intro zs hl _; cases zs with | nil => rfl | cons => cases hl
   | cons f l ih =>
    intro zs hl h
    cases zs with
    | nil => cases hl
    | cons z zs =>
     have h0 := h 0 f rfl
     rw [List.mapM_cons, h0]
     rw [ih zs (by simpa using hl) (fun i f hi => h (i + 1) f hi)]
     rfl
  exact hmm _ _ (by rw [Array.length_toList]; exact hxl.symm) (fun i f hi => by
   rw [Array.getElem?_toList] at hi
   exact hQ i (Array.getElem?_eq_some_iff.1 hi).1 f hi)
/-- A parameter read, by its cells. -/
theorem ElC.trod {t : TypeId} {R : World → List Value → Prop} (h : ElC P enc t R) {W : World} {v : Value} {d : DataW H} {p : List MemPlace} (hd : DataW.Trod enc P W 0 (fun _ => true) true t v d p) : R W v.cells.toList ∧ ∀ W' : World, Below W.heap.size W W' → ∀ sp : Nat → Bool, (∀ q ∈ p, sp q.block = true) → DataW.Trod enc P W' 0 sp true t v d p := by
 obtain ⟨n, hn⟩ := hd
 obtain ⟨h1, h2⟩ := h W n _ _ hn
 exact ⟨h1, h2⟩
end
end Go.Proofs.YtmcpnoailbmkkaaGreat
/- Groups of items; elements of own rows, whole. Over any program. -/
namespace Go.Proofs.YtmcpnoailbmkkaaGreat
open Go Go.RowKit Go.Proofs Go.Shelf
section
variable {P : Program} {n : Nat} {B : Bs} {Q : Exit → Act → World → Prop} {l : Sl} {H H1 HA HS rows : List It} {ops : Array Oper} {rest : List Oper} {o : Oper} {c : Code} {w w' : World} {x : Operand} {t : TypeId}
/-- An element of an own row, whole. -/
theorem vOwnA {α : Type} {k : Nat} {enc : α → List Value} (E : Enc k enc) {m c b j : Nat} {cs : List Value} {L : List α} {ty : TypeId} [g : Agg P t true] [z : Siz P t k] (ho : o.op = .load t x) (hx : evl l x = some (.pointer (some ⟨b, 0 + j * k + 0, none⟩))) (hm : ownB ty k (some ⟨b, 0, none⟩) m c (L.flatMap enc) ∈ H) (hj : j < L.length) (hv : enc (L[j]'hj) = cs) : RV P n B l H o (.agg cs.toArray) := by
 subst hv
 refine rv_ownagg ho hx g.h (by rw [E.len]; exact z.h) hm (fun i v hi => ?_)
 have h := (List.getElem?_eq_some_iff.1 hi).1
 rw [E.len] at h
 rw [Nat.zero_add, Nat.add_zero, flat_get E hj i h]; exact hi
theorem Wd.newA {A : It} {w0 w : World} {H : List It} (h : Wd (bs w0) H w) (hA : A ∈ H) (hr : A.ro = false) : (∀ b, A.foot b → w0.heap.size ≤ b) ∧ ∀ b, A.foot b → b < w.heap.size := by
 have o := (h.ok A hA).2
 refine ⟨fun b hb => ?_, fun b hb => (o b hb).2⟩
 rcases (o b hb).1 with h1 | h1 | h1
 ·rw [hr] at h1; cases h1
 ·exact h1.elim
 ·exact h1
/-- What a call does to items, told of their group. -/
theorem Pk.refl : ∀ H : List It, Pk H H
 | [] => .nil _
 | _ :: H => .pick (.here H) (Pk.refl H)
end
end Go.Proofs.YtmcpnoailbmkkaaGreat
/- Groups that grow. Over any program. -/
namespace Go.Proofs.YtmcpnoailbmkkaaGreat
open Go Go.RowKit Go.Proofs Go.Shelf
section
variable {P : Program} {n : Nat} {B : Bs} {Q : Exit → Act → World → Prop} {l : Sl} {H H1 HA HS rows : List It} {ops : Array Oper} {rest : List Oper} {o : Oper} {c : Code} {w w' : World} {x : Operand} {t : TypeId}
end
end Go.Proofs.YtmcpnoailbmkkaaGreat
/- A range over a function that gives two values. Over any program. -/
namespace Go.Proofs.YtmcpnoailbmkkaaGreat
open Go Go.RowKit Go.Proofs Go.Shelf
section
variable {P : Program} {n : Nat} {B : Bs} {Q : Exit → Act → World → Prop} {l : Sl} {H H' : List It} {c : Code} {w w' : World}
/-- The contract of an iterator f with what it has captured: T the states, Y what it hands out. -/
def Itr2 (P : Program) {T Y : Type} (f : FuncId) (caps : Array Value) (B : Bs) (φ : T → Prop) (HH : T → It → List It) (Yk : T → Y → Prop) (V V2 : Y → Value) (HG : T → Y → It → List It) (Rn : T → T → Prop) (fin ini : T → Prop) : Prop :=
 ∀ (lp : Nat) (X : It) (t0 : T) (W : World), φ t0 → ini t0 → Wd B (HH t0 X) W →
  (∀ t y W1, φ t → Yk t y → Wd B (HG t y X) W1 → ∀ m, YieldAt Fence.wide m P lp #[V y, V2 y] W1 (fun e W2 => e = .returned (.bool true) ∧ ∃ t', Rn t t' ∧ φ t' ∧ Wd B (HH t' X) W2)) →
  Calls P f (#[.func (.yield lp) #[] #[]] ++ caps) W (fun e W' => (∃ v, e = .returned v) ∧ ∃ t, φ t ∧ fin t ∧ Wd B (HH t X) W')
set_option maxHeartbeats 2000000 in
theorem J_range2 {T Y : Type} {g : Operand} {p q : Nat} {assign body : Code} {f : FuncId} {caps : Array Value} [hf : Cf P f] (φ : T → Prop) (HH : T → It → List It) (Yk : T → Y → Prop) (V V2 : Y → Value) (HG : T → Y → It → List It) (Rn : T → T → Prop) (fin ini : T → Prop) {Ds : List Nat} (l1 : Y → Sl)
  (hit : Itr2 P f caps ⟨B.w, B.m, none, []⟩ φ HH Yk V V2 HG Rn fin ini) (t0 : T) (h0 : φ t0) (hi0 : ini t0)
  (has : ∀ lp t y X, φ t → Yk t y → J P n ⟨B.w, B.m, some lp, []⟩ assign (Exit.then (CutP n ⟨B.w, B.m, some lp, []⟩ (fun _ : Unit => True) (fun _ => l1 y) (fun _ => HG t y X)) (fun _ _ _ => False)) ((q, V2 y) :: (p, V y) :: l) (HG t y X))
  (hbd : ∀ lp t y X, φ t → Yk t y → J P n ⟨B.w, B.m, some lp, []⟩ body (Exit.then (CutP n ⟨B.w, B.m, some lp, []⟩ (fun t' => Rn t t' ∧ φ t') (fun _ => []) (fun t' => HH t' X)) (fun _ _ _ => False)) (l1 y) (HG t y X))
  (k : ∀ D t, φ t → fin t → JQ n ⟨B.w, B.m, none, (D :: Ds).map mark⟩ Q .normal l (HH t (defsB (D :: Ds))))
  (hr : B.r = none := by rfl) (hd : B.d = Ds.map mark := by rfl) (hg : evl l g = some (.func (.func f) #[] caps) := by rfl) (hp : Nat.ble n p = false := by rfl) (hq : Nat.ble n q = false := by rfl)
  (hH : Pk (HH t0 (defsB Ds)) H := by repeat constructor) (a1 : ∀ t A C, At A C (HH t A) (HH t C) := by intro t A C; repeat constructor) (a2 : ∀ t y A C, At A C (HG t y A) (HG t y C) := by intro t y A C; repeat constructor) :
  J P n B (.rangeFunc g #[p, q] assign body) Q l H := by
 intro a w ha hw m
 rw [hr]
 have hF := hf.h
 have hw0 : Wd ⟨B.w, B.m, none, []⟩ (HH t0 (defsB Ds)) w := (hw.pick hH).re _ _
 clear hw hH
 refine wpIn_rangeFunc ?_
 intro fn hfn
 obtain ⟨rec, hrec⟩ : ∃ rec : LoopState → Option Code → Loop, rec = fun st pe => { state := st, pending := pe, fn, tmps := a.tmps, params := #[p, q], assign, body, defers := w.heap.size } := ⟨_, rfl⟩
 obtain ⟨W1, hW1⟩ : ∃ W1, (w.alloc (.deferred (some []))).alloc (.loop (rec .ready none)) = W1 := ⟨_, rfl⟩
 have hL1 : W1.heap[w.heap.size + 1]? = some (.loop (rec .ready none)) := by
  rw [← hW1]; have := World.alloc_heap_new (w.alloc (.deferred (some []))) (.loop (rec .ready none)); rwa [World.size_alloc] at this
 have hK1 : W1.heap[w.heap.size]? = some (.deferred (some [])) := by
  rw [← hW1]; exact (Below.heap_alloc _ _ _ (by simp)).trans (World.alloc_heap_new w _)
 have hb1 : Below w.heap.size w W1 := by rw [← hW1]; exact ((Below.refl _ _).alloc (Nat.le_refl _) _).alloc (by simp) _
 have hz1 : W1.heap.size = w.heap.size + 2 := by rw [← hW1]; simp
 have hmem := (a1 t0 (defsB Ds) (defsB Ds)).mem
 have hD0 := hw0.ok _ hmem
 have hnew : w.heap.size ∉ Ds := fun h => Nat.lt_irrefl _ (hD0.2 _ h).2
 have hnew1 : w.heap.size + 1 ∉ Ds := fun h => by have := (hD0.2 _ h).2; omega
 have hw1 : Wd ⟨B.w, B.m, none, []⟩ (HH t0 (loopB (w.heap.size + 1) (rec .ready none) (w.heap.size :: Ds))) W1 := by
  refine hw0.chg (a1 t0 _ _) rfl rfl ⟨hb1.os, hb1.tape, hb1.output, hb1.size, fun b hb _ => hb1.block b hb⟩ ⟨by simp [hnew1], List.nodup_cons.2 ⟨hnew, hD0.1.1⟩, hL1, fun D hD => ?_⟩ (fun b hb => ?_)
  ·rcases List.mem_cons.1 hD with rfl | hD
   ·exact hK1
   ·exact (hb1.block D (hD0.2 D hD).2).trans (hD0.1.2 D hD)
  ·rcases hb with rfl | hb
   ·exact ⟨.inr (by omega), by omega⟩
   ·rcases List.mem_cons.1 hb with rfl | hb
    ·exact ⟨.inr (Nat.le_refl _), by omega⟩
    ·exact ⟨.inl hb, by have := (hD0.2 b hb).2; omega⟩
 refine ⟨w.heap.size + 1, [mark w.heap.size], W1, { target := .fn (.func f) caps, args := #[.func (.yield (w.heap.size + 1)) #[] #[]] }, W1, f,
  #[.func (.yield (w.heap.size + 1)) #[] #[]] ++ caps, W1, ?_, ?_, ?_, ?_, fun h => (by cases h), ?_⟩
 ·rw [← hW1, hrec]; exact run_enterLoop_outer _ _ _ _ _
 ·simp only [resolve, ha.evD hg]
  simp [go_sem]
 ·intro f' _; exact trivial
 ·simp [invoke, go_sem, hF]
 refine (callsIn_wide.2 (hit (w.heap.size + 1) (loopB (w.heap.size + 1) (rec .ready none) (w.heap.size :: Ds)) t0 W1 h0 hi0 hw1 ?_)).mono ?_
 ·intro t y W ht hy hwW m'
  have hX := (hwW.ok _ (a2 t y (loopB (w.heap.size + 1) (rec .ready none) (w.heap.size :: Ds)) (loopB (w.heap.size + 1) (rec .ready none) (w.heap.size :: Ds))).mem).1
  have hl := hX.2.2.1
  have hy1 := run_yield (P := P) (args := #[V y, V2 y]) hl (by rw [hrec]; simp)
  rw [hrec] at hy1
  refine ⟨fn, _, assign, body, hy1, roundIn_of_wpIn trivial ?_⟩
  have hfr : Fr n ((q, V2 y) :: (p, V y) :: l) { tmps := (a.tmps.setIfInBounds p (V y)).setIfInBounds q (V2 y), defers := [] } := by
   have h := (ha.put p (V y) hp).put q (V2 y) hq
   exact ⟨h.size, rfl, h.get⟩
  have hA := has (w.heap.size + 1) t y _ ht hy _ W hfr hwW.un m'
  refine wpIn_mono (Q := NO _) (by simpa [Bs.df, wr, Fence.inRound] using hA) ?_
  intro e a2' w2 hq
  cases e with
  | normal =>
   obtain ⟨_, -, a0, rfl, hf0, hw2⟩ := hq
   have hX2 := (hw2.ok _ (a2 t y (loopB (w.heap.size + 1) (rec .ready none) (w.heap.size :: Ds)) (loopB (w.heap.size + 1) (rec .ready none) (w.heap.size :: Ds))).mem).1
   refine ⟨_, run_beginRound hX2.2.2.1 (by rw [hrec]), ?_⟩
   have hw3 := hw2.loop (L' := { rec .ready none with state := .busy }) (a2 t y _ _)
   refine wpIn_mono (hbd (w.heap.size + 1) t y _ ht hy a0 _ hf0 hw3 m') ?_
   intro e a3 w4 hq
   cases e with
   | normal =>
    obtain ⟨t', ⟨hR, hφ⟩, a4, rfl, -, hw5⟩ := hq
    have hX5 := (hw5.ok _ (a1 t' (loopB (w.heap.size + 1) { rec .ready none with state := .busy } (w.heap.size :: Ds)) (loopB (w.heap.size + 1) { rec .ready none with state := .busy } (w.heap.size :: Ds))).mem).1
    refine ⟨_, _, run_endRound none hX5.2.2.1, rfl, t', hR, hφ, ?_⟩
    have := hw5.loop (L' := rec .ready none) (a1 t' _ _)
    rw [hrec] at this ⊢
    exact this.un
   | _ => exact hq.elim
  | _ => exact hq.elim
 ·rintro e W2 ⟨⟨u, rfl⟩, t, hφ, hfin, hw2⟩
  have hX2 := (hw2.ok _ (a1 t (loopB (w.heap.size + 1) (rec .ready none) (w.heap.size :: Ds)) (loopB (w.heap.size + 1) (rec .ready none) (w.heap.size :: Ds))).mem).1
  refine ⟨none, _, (run_endLoop hX2.2.2.1 (by rw [hrec]; simp)).trans (by rw [hrec]), ?_⟩
  have hw3 := hw2.loop (L' := { rec .ready none with state := .exhausted }) (a1 t _ _)
  have hX3 := (hw3.ok _ (a1 t (loopB (w.heap.size + 1) { rec .ready none with state := .exhausted } (w.heap.size :: Ds)) (loopB (w.heap.size + 1) { rec .ready none with state := .exhausted } (w.heap.size :: Ds))).mem).1
  have hw4 := hw3.turn (a1 t _ (defsB (w.heap.size :: Ds))) (fun h => (by cases h)) ⟨hX3.2.1, hX3.2.2.2⟩ (fun b hb => .inr hb)
  have hk := k w.heap.size t hφ hfin a _ ha (by rw [hrec] at hw4; exact hw4.un)
  show Q .normal _ _
  have e : ({ B.df a with defers := [mark w.heap.size] ++ (B.df a).defers } : Act) = (⟨B.w, B.m, none, (w.heap.size :: Ds).map mark⟩ : Bs).df a := by
   simp [Bs.df, hd]
  rw [e]
  exact hk
variable {ops : Array Oper} {rest : List Oper} {o : Oper}
/-- In a region with a call of yield: a call that leaves all as it lay; yield with two values; what is known. -/
theorem iC {f : FuncId} {args : Array Value} {v : Value} {d : Nat} (he : EC P n l o f args) (hC : ∀ w, Wd B H w → Calls P f args w (fun e w' => e = .returned v ∧ Below w.heap.size w w')) (k : JLi P n B ops Q rest ((d, v) :: l) H) (hnd : isDef o.op = false := by rfl) (hd : o.dst = some d := by rfl) (hW : WN ops n l o true := by exact wAny) (hn : Nat.ble n d = false := by rfl) : JLi P n B ops Q (o :: rest) l H := fun a w ha hw m =>
 wpListIn_step (fun K hK => by
  rw [if_pos (hW.D ha)]
  unfold Oper.wpIn
  refine ⟨fun _ _ => trivial, ?_⟩
  rw [Oper.semAt_plain _ _ _ (fun c hc => by rw [hc] at hnd; cases hnd), show (execOp (B.df a).eval o).run P w = .ok (.enter f args) w from he a w ha]
  refine ⟨fun h => (by cases h), (callsIn_wide (n := m - 1)).2 ((hC w hw).mono ?_)⟩
  rintro e W2 ⟨rfl, hb⟩
  show K ((B.df a).put o.dst v) W2
  rw [hd]
  exact hK _ _ (by rw [Bs.df_put]; exact k _ _ (ha.put d v hn) (hw.up hb) m))
theorem iKT {d : Nat} {p : Prop} [Decidable p] (hp : p) (k : JLi P n B ops Q rest ((d, .bool true) :: l) H) : JLi P n B ops Q rest ((d, .bool (decide p)) :: l) H := fun a w ha hw m => k a w (Fr.known (decide_eq_true hp) ha) hw m
theorem iY2 {T : Type} {φ : T → Prop} {HH : T → List It} {ts : Array TypeId} {x y z : Operand} {lp d : Nat} {v u : Value} (hY : ∀ W, Wd B H W → ∀ m, YieldAt Fence.wide m P lp #[v, u] W (fun e W2 => e = .returned (.bool true) ∧ ∃ t', φ t' ∧ Wd B (HH t') W2))
 (k : ∀ t', φ t' → JLi P n B ops Q rest ((d, .bool true) :: l) (HH t')) (ho : o.op = .call { callee := .value x, args := #[y, z], argTypes := ts } := by rfl) (hx : evl l x = some (.func (.yield lp) #[] #[]) := by rfl) (hy : evl l y = some v := by rfl) (hz : evl l z = some u := by rfl) (hd : o.dst = some d := by rfl) (hW : WN ops n l o true := by exact wAny) (hn : Nat.ble n d = false := by rfl) :
 JLi P n B ops Q (o :: rest) l H := fun a w ha hw m =>
 wpListIn_step (fun K hK => by
  rw [if_pos (hW.D ha)]
  obtain ⟨fn, tmps, assign, body, h1, h2⟩ := hY w hw (m - 1)
  have he : (execOp (B.df a).eval o).run P w = .ok (.round lp fn tmps assign body) w := by
   unfold execOp; rw [ho]
   simp only [resolve, ha.evD hx, List.map_toArray, List.map_cons, List.map_nil]
   simp [Deferred.ofValue, invoke, ha.evD hy, ha.evD hz, h1]
  unfold Oper.wpIn
  refine ⟨fun _ _ => trivial, ?_⟩
  rw [Oper.semAt_plain _ _ _ (fun c hc => by rw [ho] at hc; cases hc), he, Oper.uponIn_round]
  refine ⟨fun h => (by cases h), h2.mono ?_⟩
  rintro e W2 ⟨rfl, t', h3, h4⟩
  show K ((B.df a).put o.dst (.bool true)) W2
  rw [hd]
  exact hK _ _ (by rw [Bs.df_put]; exact k t' h3 _ _ (ha.put d _ hn) h4 m))
theorem YieldAt.mono' {F : Fence} {m : Nat} {P : Program} {l : Nat} {args : Array Value} {W : World} {R R' : Ending → World → Prop} (h : YieldAt F m P l args W R) (hR : ∀ e W, R e W → R' e W) : YieldAt F m P l args W R' := by
 obtain ⟨fn, tmps, assign, body, h1, h2⟩ := h
 exact ⟨fn, tmps, assign, body, h1, h2.mono hR⟩
end
end Go.Proofs.YtmcpnoailbmkkaaGreat
/- Layer 2: the stones in the house. -/
namespace Go.Proofs.YtmcpnoailbmkkaaGreat
open Go Go.RowKit Go.Proofs
attribute [local irreducible] J JQ JL JA JD

/-- Numbers that are not negative, as elements. -/
def eN (n : Nat) : List Value := [.int .i64 (n : Nat)]
theorem EN : Enc 1 eN := ⟨fun _ => rfl, fun x v h => by simp [eN] at h; subst h; rfl⟩
/-- The places, among the first k, of the stones in the house. -/
def hsN (l : List St) (k : Nat) : List Nat := (List.range k).filter (fun i => decide (InH (l.getD i ⟨0, 0, 0, 0⟩).x (l.getD i ⟨0, 0, 0, 0⟩).y))
theorem hsN_s {l : List St} {k : Nat} {x : St} (hk : k < l.length) (hx : l[k]'hk = x) : hsN l (k + 1) = if InH x.x x.y then hsN l k ++ [k] else hsN l k := by
 unfold hsN
 rw [List.range_succ, List.filter_append, List.filter_cons, List.filter_nil]
 have e : l.getD k ⟨0, 0, 0, 0⟩ = x := by rw [List.getD_eq_getElem?_getD, List.getElem?_eq_getElem hk, hx]; rfl
 rw [e]
 by_cases h : InH x.x x.y
 ·rw [if_pos h, decide_eq_true h, if_pos rfl]
 ·rw [if_neg h, decide_eq_false h, if_neg (by decide), List.append_nil]
theorem hsN_len (l : List St) (k : Nat) : (hsN l k).length ≤ k := Nat.le_trans (List.length_filter_le _ _) (by rw [List.length_range]; exact Nat.le_refl _)
theorem hsN_pre (l : List St) {k n : Nat} (h : k ≤ n) : hsN l k <+: hsN l n := by
 induction n with
 | zero => rw [Nat.le_zero.1 h]; exact List.prefix_refl _
 | succ n ih =>
  rcases Nat.lt_or_ge k (n + 1) with h1 | h1
  ·refine (ih (by omega)).trans ?_
   unfold hsN
   rw [List.range_succ, List.filter_append]
   exact List.prefix_append _ _
  ·obtain rfl : k = n + 1 := by omega
   exact List.prefix_refl _
/-- All of them. -/
def hsA (l : List St) : List Nat := hsN l l.length
theorem hsA_at {l : List St} {k : Nat} {x : St} (hk : k < l.length) (hx : l[k]'hk = x) (hi : InH x.x x.y) : (hsN l k).length < (hsA l).length ∧ (hsA l)[(hsN l k).length]? = some k := by
 have h1 := hsN_pre l (show k + 1 ≤ l.length by omega)
 rw [hsN_s hk hx, if_pos hi] at h1
 have h2 := h1.length_le
 rw [List.length_append] at h2
 have h3 : (hsN l k).length < (hsA l).length := Nat.lt_of_lt_of_le (Nat.lt_succ_self _) h2
 refine ⟨h3, ?_⟩
 obtain ⟨r, hr⟩ := h1
 unfold hsA
 rw [← hr, List.append_assoc, List.getElem?_append_right (Nat.le_refl _), Nat.sub_self]; rfl
theorem hs_mem {l : List St} {i k : Nat} (h : i ∈ hsN l k) : i < k ∧ InH (l.getD i ⟨0, 0, 0, 0⟩).x (l.getD i ⟨0, 0, 0, 0⟩).y := by
 unfold hsN at h
 rw [List.mem_filter, List.mem_range] at h
 exact ⟨h.1, of_decide_eq_true h.2⟩
/-- The state of a loop over them: how many were given; a row. -/
structure HsT where
 n : Nat
 A : Option Addr
 c : Nat
abbrev hsX (l : List St) (n : Nat) : List Nat := (hsA l).take n
set_option maxRecDepth 100000 in
set_option maxHeartbeats 4000000 in
theorem housed_any (A : Option Addr) (n cap : Nat) (w : World) : Calls Tryz.prog 43 #[.slice A n cap] w (Ret w (fun _ : Nat => True) (fun b => .func (.func 77) #[] #[.pointer (some ⟨b, 0, none⟩)]) (fun b => [cellB b [.slice A n cap] 22])) := by
 refine J_enter (fun _ => False) (vs := [.slice A n cap]) (k := 3) (l := [(0, .slice A n cap)]) Tryz.func43 rfl rfl Tryz.ntmps43 rfl rfl (Wd.start _) ?_
 refine s2 ?_
 refine aW (oX [_]) (fun b1 hb1 => ?_)
 refine s10 ?_
 refine JR_one rfl (rr_tmp rfl) ?_
 intro w' hw
 exact ⟨b1, trivial, rfl, hw.pick (by repeat constructor)⟩
set_option maxRecDepth 100000 in
set_option maxHeartbeats 4000000 in
theorem housed1_any (l : List St) (A : Option Addr) (cap bh b3 : Nat) (w0 : World) (E1 : It) (hrow : Arr 4 eT w0 (.slice A l.length cap) l) (hok : ∀ s ∈ l, OkS s.x s.y) : Itr2 Tryz.prog (T := HsT) (Y := Nat × St) 77 #[.pointer (some ⟨bh, 0, none⟩)] ⟨w0, fun _ => False, none, []⟩ (fun t => t.n ≤ (hsA l).length) (fun t X => [cellB bh [.slice A l.length cap] 22, E1, cellB b3 [.slice t.A (hsX l t.n).length t.c] 27, ownB 3 1 t.A (hsX l t.n).length t.c ((hsX l t.n).flatMap eN), X]) (fun t y => (hsA l)[t.n]? = some y.1 ∧ l[y.1]? = some y.2) (fun y => .int .i64 (y.1 : Nat)) (fun y => Stv y.2) (fun t _ X => [cellB bh [.slice A l.length cap] 22, E1, cellB b3 [.slice t.A (hsX l t.n).length t.c] 27, ownB 3 1 t.A (hsX l t.n).length t.c ((hsX l t.n).flatMap eN), X]) (fun t t' => t'.n = t.n + 1) (fun t => t.n = (hsA l).length) (fun t => t.n = 0) := by
 intro lp X t0 W h0 hn0 hW hY
 obtain ⟨A', cap', e0, -, ⟨hl, -⟩, hAl⟩ := hrow
 obtain ⟨rfl, -, rfl⟩ : A = A' ∧ True ∧ cap = cap' := by injection e0 with e1 _ e3; exact ⟨e1, trivial, e3⟩
 refine J_start (B := ⟨w0, fun _ => False, none, []⟩) rfl rfl (vs := [.func (.yield lp) #[] #[], .pointer (some ⟨bh, 0, none⟩)]) (k := 22) (l := [(0, .func (.yield lp) #[] #[]), (1, .pointer (some ⟨bh, 0, none⟩))]) Tryz.func77 rfl rfl Tryz.ntmps77 rfl rfl (hW) ?_
 refine s8 ?_
 refine xL (T := Nat × HsT) (fun q => q.1 ≤ l.length ∧ (hsN l q.1).length = q.2.n ∧ q.2.n ≤ (hsA l).length) (fun q => [(0, .func (.yield lp) #[] #[]), (5, .slice A l.length cap), (6, .int .i64 (l.length : Nat)), (7, .int .i64 (q.1 : Nat))]) (fun q => [cellB bh [.slice A l.length cap] 22, E1, cellB b3 [.slice q.2.A (hsX l q.2.n).length q.2.c] 27, ownB 3 1 q.2.A (hsX l q.2.n).length q.2.c ((hsX l q.2.n).flatMap eN), X]) (fun q => l.length - q.1) (0, t0) ⟨Nat.zero_le _, by rw [hn0]; rfl, h0⟩ ?_
 rintro q ⟨hq1, hq2, hq3⟩
 obtain ⟨k, hk⟩ : ∃ k, q.1 = k := ⟨_, rfl⟩
 rw [hk] at hq1 hq2 ⊢
 refine s3 ?_
 refine JL_dec (fun h8 => ?_) (fun h8 => ?_)
 ·refine s9 ?_
  have hltx : k < l.length := by omega
  obtain ⟨bx, qx, rfl, hh⟩ := hAl (by intro e; subst e; simp at hltx)
  obtain ⟨⟨xt, xn, xx, xy⟩, hx⟩ : ∃ y, l[k]'hltx = y := ⟨_, rfl⟩
  have hmx : (⟨xt, xn, xx, xy⟩ : St) ∈ l := by rw [← hx]; exact List.getElem_mem _
  refine s3 ?_
  refine aV (vHoldA (cs := [.int .i64 xt, .int .i64 xn, .int .i64 xx, .int .i64 xy]) ET rfl rfl (fun h => h) hh hltx (by rw [hx]; rfl)) ?_
  refine aW oA (fun b4 hb4 => ?_)
  refine s5 ?_
  by_cases hin : InH xx xy
  ·refine kJ [(0, _), (3, _), (4, _), (5, _), (6, _), (7, _)] ?_
   refine J_regI ?_
   refine iV (RP.rv pAny) ?_
   refine iV vAny ?_
   refine iC (ecF rfl rfl) (fun w hw => zone_any xx xy (hok _ hmx) w) ?_
   refine iV (RP.rv gBin) ?_
   refine iKT ((zone_house xx xy).2 hin) ?_
   refine iV (RP.rv (rp_move rfl rfl)) ?_
   refine iV (RP.rv (rp_move rfl rfl)) ?_
   refine iV (RP.rv (rp_move rfl rfl)) ?_
   refine iV vAny ?_
   refine iY2 (T := HsT) (φ := fun t' => t'.n = q.2.n + 1 ∧ t'.n ≤ (hsA l).length) (HH := fun t' => [cellB bh [.slice (some ⟨bx, qx, none⟩) l.length cap] 22, E1, cellB b3 [.slice t'.A (hsX l t'.n).length t'.c] 27, ownB 3 1 t'.A (hsX l t'.n).length t'.c ((hsX l t'.n).flatMap eN), X]) (fun W1 hW1 m => YieldAt.mono' (hY q.2 (k, (⟨xt, xn, xx, xy⟩ : St)) W1 hq3 ⟨by dsimp only; rw [← hq2]; exact (hsA_at hltx hx hin).2, by dsimp only; rw [List.getElem?_eq_getElem hltx, hx]⟩ (hW1.pick (by repeat constructor)) m) (fun e W2 h => ⟨h.1, h.2.imp fun t' h => ⟨⟨h.1, h.2.1⟩, h.2.2⟩⟩)) (fun t' ht' => ?_)
   obtain ⟨hRn, ht2⟩ := ht'
   refine iV (RP.rv (pNot rfl rfl)) ?_
   refine iV (RP.rv pAny) ?_
   refine iN ?_
   refine s5 ?_
   refine kJ [(0, _), (5, _), (6, _), (7, _)] ?_
   refine s4 ?_
   have hs := hsN_s hltx hx
   rw [if_pos hin] at hs
   exact xR (k + 1, t') ⟨by dsimp only; omega, by dsimp only; rw [hs, List.length_append, hRn, hq2]; rfl, ht2⟩ (by dsimp only; omega) (hl := ⟨rfl, rfl, rfl, (congrArg some (by go_num)), trivial⟩)
  ·refine kJ [(0, _), (3, _), (4, _), (5, _), (6, _), (7, _)] ?_
   refine s3 ?_
   refine aCB (fun w hw => zone_any xx xy (hok _ hmx) w) ?_
   refine s1 ?_
   refine aDecF ?_ (fun h => hin ((zone_house xx xy).1 h))
   refine s13 ?_
   refine kJ [(0, _), (5, _), (6, _), (7, _)] ?_
   refine s4 ?_
   have hs := hsN_s hltx hx
   rw [if_neg hin] at hs
   exact xR (k + 1, q.2) ⟨by dsimp only; omega, by dsimp only; rw [hs]; exact hq2, hq3⟩ (by dsimp only; omega) (hl := ⟨rfl, rfl, rfl, (congrArg some (by go_num)), trivial⟩)
 ·refine s8 ?_
  refine JR_end rfl ?_
  intro w' hw
  obtain rfl : k = l.length := by omega
  exact ⟨⟨_, rfl⟩, q.2, hq3, hq2.symm, hw.pick (by repeat constructor)⟩
end Go.Proofs.YtmcpnoailbmkkaaGreat
/- Layer 2: the nearest stones. -/
namespace Go.Proofs.YtmcpnoailbmkkaaGreat
open Go Go.RowKit Go.Proofs
attribute [local irreducible] J JQ JL JA JD

/-- The square of the distance of a stone by its place. -/
def sqAt (l : List St) (i : Nat) : Int := sqd (l.getD i ⟨0, 0, 0, 0⟩).x (l.getD i ⟨0, 0, 0, 0⟩).y
theorem sqAt_get {l : List St} {i : Nat} {x : St} (h : i < l.length) (hx : l[i]'h = x) : sqAt l i = sqd x.x x.y := by
 unfold sqAt; rw [List.getD_eq_getElem?_getD, List.getElem?_eq_getElem h, hx]; rfl
def cmp3 (a b : Int) : Int := if a < b then -1 else if b < a then 1 else 0
/-- Nearer, or as near and earlier. -/
def lx (key : Nat → Int) (a b : Nat) : Prop := key a < key b ∨ (key a = key b ∧ a < b)
theorem lx_trans {key : Nat → Int} {a b c : Nat} (h : lx key a b) (h' : lx key b c) : lx key a c := by unfold lx at *; omega
theorem swap_list {P R : List Nat} {p x : Nat} : ((P ++ p :: x :: R).set (P.length + 1) p).set P.length x = P ++ x :: p :: R := by
  rw [List.set_append_right _ _ (by omega)]
  have e : P.length + 1 - P.length = 1 := by omega
  rw [e]
  show (P ++ p :: p :: R).set P.length x = _
  rw [List.set_append_right _ _ (Nat.le_refl _), Nat.sub_self]
  rfl
theorem ins_sorted {key : Nat → Int} {P Q : List Nat} {x : Nat} (hS : (P ++ Q).Pairwise (lx key)) (hQ : ∀ y ∈ Q, key x < key y) (hP : ∀ p, P.getLast? = some p → lx key p x) : (P ++ x :: Q).Pairwise (lx key) := by
  rw [List.pairwise_append] at hS ⊢
  obtain ⟨h1, h2, h3⟩ := hS
  refine ⟨h1, List.pairwise_cons.2 ⟨fun y hy => .inl (hQ y hy), h2⟩, ?_⟩
  have hPx : ∀ a ∈ P, lx key a x := by
    intro a ha
    rcases List.eq_nil_or_concat P with rfl | ⟨P', p, rfl⟩
    · cases ha
    · have hp := hP p (by simp)
      rw [List.concat_eq_append, List.mem_append] at ha
      rcases ha with ha | ha
      · rw [List.concat_eq_append, List.pairwise_append] at h1
        exact lx_trans (h1.2.2 a ha p (by simp)) hp
      · rw [List.mem_singleton] at ha; subst ha; exact hp
  intro a ha b hb
  rcases List.mem_cons.1 hb with rfl | hb
  · exact hPx a ha
  · exact h3 a ha b hb


set_option maxRecDepth 100000 in
set_option maxHeartbeats 4000000 in
theorem near1_any (l : List St) (A : Option Addr) (cap b : Nat) (i k : Nat) (w : World) (hc : (cellB b [.slice A l.length cap] 22).holds w) (hrow : Arr 4 eT w (.slice A l.length cap) l) (hi : i < l.length) (hk : k < l.length) (hp : ∀ s ∈ l, Play s.x s.y) : Calls Tryz.prog 45 (#[] ++ #[.int .i64 (i : Nat), .int .i64 (k : Nat)] ++ #[.pointer (some ⟨b, 0, none⟩)]) w (Back (.int .i64 (cmp3 (sqAt l i) (sqAt l k))) w) := by
 obtain ⟨A', cap', e0, -, ⟨hl, -⟩, hAl⟩ := hrow
 obtain ⟨rfl, -, rfl⟩ : A = A' ∧ True ∧ cap = cap' := by injection e0 with e1 _ e3; exact ⟨e1, trivial, e3⟩
 obtain ⟨bx, qx, rfl, hh⟩ := hAl (by intro e; subst e; simp at hi)
 have hltx : i < l.length := hi
 obtain ⟨⟨xt, xn, xx, xy⟩, hx⟩ : ∃ y, l[i]'hltx = y := ⟨_, rfl⟩
 have hmx : (⟨xt, xn, xx, xy⟩ : St) ∈ l := by rw [← hx]; exact List.getElem_mem _
 have hlty : k < l.length := hk
 obtain ⟨⟨yt, yn, yx, yy⟩, hy⟩ : ∃ y, l[k]'hlty = y := ⟨_, rfl⟩
 have hmy : (⟨yt, yn, yx, yy⟩ : St) ∈ l := by rw [← hy]; exact List.getElem_mem _
 refine J_enter (fun _ => False) (vs := [.int .i64 (i : Nat), .int .i64 (k : Nat), .pointer (some ⟨b, 0, none⟩)]) (k := 25) (l := [(0, .int .i64 (i : Nat)), (1, .int .i64 (k : Nat)), (2, .pointer (some ⟨b, 0, none⟩))]) Tryz.func45 rfl rfl Tryz.ntmps45 rfl rfl (Wd.start _) ?_
 refine s6 ?_
 refine xD [0, 1, 2, 3, 4, 6, 7, 8, 9, 10, 5, 11, 12, 13] [0, 4, 6, 10] ?_
 refine dL rfl (vOld rfl rfl (fun h => h) (cellB_get hc rfl)) ?_
 refine s1 ?_
 refine dP rfl (pIdxI (i) rfl rfl rfl) ?_
 refine s1 ?_
 refine dL rfl (vHoldP (i := 2) (m := 2) (cs := [.int .i64 xx, .int .i64 xy]) rfl rfl (fun h => h) hh hltx rfl (by omega) (by rw [hx]; rfl)) ?_
 refine dL rfl (vOld rfl rfl (fun h => h) (cellB_get hc rfl)) ?_
 refine s1 ?_
 refine dP rfl (pIdxI (k) rfl rfl rfl) ?_
 refine s1 ?_
 refine dL rfl (vHoldP (i := 2) (m := 2) (cs := [.int .i64 yx, .int .i64 yy]) rfl rfl (fun h => h) hh hlty rfl (by omega) (by rw [hy]; rfl)) ?_
 refine dCB rfl (fun w hw => square_any xx xy (play_bound (hp _ hmx)) w) ?_
 refine dCB rfl (fun w hw => square_any yx yy (play_bound (hp _ hmy)) w) ?_
 refine s7 ?_
 refine kJ [(6, _), (7, _)] ?_
 refine s4 ?_
 refine JL_dec (fun h23 => ?_) (fun h23 => ?_)
 ·refine s5 ?_
  refine kJ [] ?_
  refine s7 ?_
  refine JR_one rfl (rr_tmp rfl) ?_
  intro w' hw
  exact ⟨by rw [sqAt_get hltx hx, sqAt_get hlty hy]; unfold cmp3; rw [if_pos h23], hw.bel⟩
 ·refine s5 ?_
  refine kJ [(6, _), (7, _)] ?_
  refine s4 ?_
  refine JL_dec (fun h27 => ?_) (fun h27 => ?_)
  ·refine s5 ?_
   refine kJ [] ?_
   refine s7 ?_
   refine JR_one rfl (rr_tmp rfl) ?_
   intro w' hw
   exact ⟨by rw [sqAt_get hltx hx, sqAt_get hlty hy]; unfold cmp3; rw [if_neg h23, if_pos h27], hw.bel⟩
  ·refine s8 ?_
   refine kJ [] ?_
   refine s5 ?_
   refine JR_one rfl (rr_tmp rfl) ?_
   intro w' hw
   exact ⟨by rw [sqAt_get hltx hx, sqAt_get hlty hy]; unfold cmp3; rw [if_neg h23, if_neg h27], hw.bel⟩
set_option maxRecDepth 100000 in
set_option maxHeartbeats 4000000 in
theorem insertion_any (f : FuncId) (caps : Array Value) (key : Nat → Int) (d : List Nat) (g c : Nat) (w : World) [hf : Cf Tryz.prog f] (hA : (ownB 3 1 (some ⟨g, 0, none⟩) d.length c ((d).flatMap eN)).holds w) (hAf : ∀ b, (ownB 3 1 (some ⟨g, 0, none⟩) d.length c ((d).flatMap eN)).foot b → b < w.heap.size) (hinc : d.Pairwise (· < ·)) (hd20 : d.length ≤ 20) (hcl : ∀ i k : Nat, i ∈ d → k ∈ d → ∀ W, Wd ⟨w, (ownB 3 1 (some ⟨g, 0, none⟩) d.length c ((d).flatMap eN)).foot, none, []⟩ [] W → Calls Tryz.prog f (#[] ++ #[.int .i64 (i : Nat), .int .i64 (k : Nat)] ++ caps) W (Back (.int .i64 (cmp3 (key i) (key k))) W)) : Calls Tryz.prog 114 #[.slice (some ⟨g, 0, none⟩) d.length c, .int .i64 0, .int .i64 (d.length : Nat), .func (.func f) #[] caps] w (RetM (ownB 3 1 (some ⟨g, 0, none⟩) d.length c ((d).flatMap eN)) (fun d' : List Nat => d'.Perm d ∧ d'.Pairwise (lx key)) (fun _ => .tuple #[]) (fun d' => ownB 3 1 (some ⟨g, 0, none⟩) d'.length c ((d').flatMap eN)) w) := by
 refine J_start (B := ⟨w, (ownB 3 1 (some ⟨g, 0, none⟩) d.length c ((d).flatMap eN)).foot, none, []⟩) rfl rfl (vs := [.slice (some ⟨g, 0, none⟩) d.length c, .int .i64 0, .int .i64 (d.length : Nat), .func (.func f) #[] caps]) (k := 49) (l := [(0, .slice (some ⟨g, 0, none⟩) d.length c), (1, .int .i64 0), (2, .int .i64 (d.length : Nat)), (3, .func (.func f) #[] caps)]) Tryz.func114 rfl rfl Tryz.ntmps114 rfl rfl (Wd.startM hA hAf) ?_
 refine s8 ?_
 refine xL (T := Nat × List Nat) (fun q => 1 ≤ q.1 ∧ (q.1 ≤ d.length ∨ d.length = 0) ∧ q.2.Perm (d.take q.1) ∧ q.2.Pairwise (lx key)) (fun q => [(0, .slice (some ⟨g, 0, none⟩) d.length c), (1, .int .i64 0), (2, .int .i64 (d.length : Nat)), (3, .func (.func f) #[] caps), (8, .int .i64 (q.1 : Nat))]) (fun q => [ownB 3 1 (some ⟨g, 0, none⟩) d.length c ((q.2 ++ d.drop q.1).flatMap eN)]) (fun q => d.length - q.1) (1, d.take 1) ⟨Nat.le_refl _, by dsimp only; omega, List.Perm.refl _, by dsimp only; cases d with | nil => simp | cons a d => simp⟩ ?_ (hl := ⟨rfl, rfl, rfl, rfl, (congrArg some (by go_num)), trivial⟩) (hH := by (try dsimp only); rw [List.take_append_drop]; repeat constructor)
 rintro ⟨i, S⟩ ⟨hi1, hi2, hS1, hS2⟩
 dsimp only at hi1 hi2 hS1 hS2 ⊢
 refine s6 ?_
 refine JL_dec (fun h14 => ?_) (fun h14 => ?_)
 ·refine s8 ?_
  have hltx : i < d.length := by omega
  obtain ⟨x, hx⟩ : ∃ x, d[i]'hltx = x := ⟨_, rfl⟩
  obtain ⟨T, hT⟩ : ∃ T, d.drop (i + 1) = T := ⟨_, rfl⟩
  have hdr : d.drop i = x :: T := by rw [List.drop_eq_getElem_cons hltx, hx, hT]
  have hlen : S.length = i := by rw [hS1.length_eq, List.length_take]; omega
  have hxm : x ∈ d := by rw [← hx]; exact List.getElem_mem _
  have hgt : ∀ y ∈ S, y < x ∧ y ∈ d := fun y hy => by
   have hy2 := hS1.mem_iff.1 hy
   refine ⟨?_, List.mem_of_mem_take hy2⟩
   have h := hinc
   rw [← List.take_append_drop i d, List.pairwise_append] at h
   exact h.2.2 y hy2 x (by rw [hdr]; simp)
  have hdl : d.length = i + 1 + T.length := by rw [← hT, List.length_drop]; omega
  refine s6 ?_
  refine xL (T := List Nat × List Nat) (fun q => q.1 ++ q.2 = S ∧ ∀ y ∈ q.2, key x < key y) (fun q => [(0, .slice (some ⟨g, 0, none⟩) d.length c), (1, .int .i64 0), (2, .int .i64 (d.length : Nat)), (3, .func (.func f) #[] caps), (8, .int .i64 (i : Nat)), (9, .int .i64 (q.1.length : Nat))]) (fun q => [ownB 3 1 (some ⟨g, 0, none⟩) d.length c ((q.1 ++ x :: (q.2 ++ T)).flatMap eN)]) (fun q => q.1.length) (S, []) ⟨List.append_nil _, fun y hy => by cases hy⟩ ?_ (hl := ⟨rfl, rfl, rfl, rfl, rfl, (by dsimp only; rw [hlen]; rfl), trivial⟩) (hH := by (try dsimp only); rw [List.nil_append, ← hdr]; repeat constructor)
  rintro ⟨P, Q⟩ ⟨hPQ, hQ⟩
  dsimp only at hPQ hQ ⊢
  refine s2 ?_
  have fin : (∀ y, P.getLast? = some y → lx key y x) → (P ++ x :: Q).Perm (d.take (i + 1)) ∧ (P ++ x :: Q).Pairwise (lx key) := fun h => by
   refine ⟨?_, ins_sorted (by rw [hPQ]; exact hS2) hQ h⟩
   rw [List.take_succ_eq_append_getElem hltx, hx]
   refine List.perm_middle.trans ?_
   rw [hPQ]
   exact (hS1.cons x).trans (List.perm_append_singleton _ _).symm
  have hPl : P.length + Q.length = i := by rw [← hlen, ← hPQ, List.length_append]
  rcases List.eq_nil_or_concat P with rfl | ⟨P', p, rfl⟩
  ·obtain ⟨fin1, fin2⟩ := fin (fun y hy => by cases hy)
   refine xD [0, 1, 2, 3, 4, 5, 6, 7, 8, 9, 10, 11, 12, 13, 14, 15, 16] [8, 13] ?_
   refine s3 ?_
   refine dDecF ?_ (by simp)
   refine s23 ?_
   refine kJ [(0, _), (1, _), (2, _), (3, _), (8, _)] ?_
   refine s5 ?_
   exact xR (i + 1, [] ++ x :: Q) ⟨by dsimp only; omega, by dsimp only; omega, fin1, fin2⟩ (by dsimp only; omega) (hl := ⟨rfl, rfl, rfl, rfl, (congrArg some (by go_num)), trivial⟩) (hH := by (try dsimp only); rw [show ([] ++ x :: Q) ++ d.drop (i + 1) = [] ++ x :: (Q ++ T) by rw [hT]; simp]; repeat constructor)
  ·rw [List.concat_eq_append] at *
   have hl2 : (P' ++ [p]).length = P'.length + 1 := by simp
   have e1 : P' ++ [p] ++ x :: (Q ++ T) = (P' ++ p :: x :: (Q ++ T)) := by simp
   have hML : (P' ++ p :: x :: (Q ++ T)).length = d.length := by simp; rw [hl2] at hPl; omega
   have hj0 : P'.length < (P' ++ p :: x :: (Q ++ T)).length := by simp
   have hj1 : P'.length + 1 < (P' ++ p :: x :: (Q ++ T)).length := by simp
   have g0 : (P' ++ p :: x :: (Q ++ T))[P'.length]'hj0 = p := by rw [List.getElem_append_right (by omega)]; simp
   have g1 : (P' ++ p :: x :: (Q ++ T))[P'.length + 1]'hj1 = x := by rw [List.getElem_append_right (by omega)]; simp
   have hsw : ((P' ++ p :: x :: (Q ++ T)).set (P'.length + 1) p).set P'.length x = P' ++ x :: (p :: Q ++ T) := swap_list
   have hpS := hgt p (by rw [← hPQ]; simp)
   rw [e1, hl2]
   refine xD [0, 1, 2, 3, 4, 5, 6, 7, 8, 9, 10, 11, 12, 13, 14, 15] [8, 13] ?_
   refine s3 ?_
   refine dDecT ?_ (by omega)
   refine s4 ?_
   refine dP rfl (pIdxI (P'.length + 1) rfl rfl rfl (by go_num)) ?_
   refine dL rfl (vOwn EN rfl rfl (by repeat constructor) hj1 (by omega) (by rw [g1]; rfl)) ?_
   refine s3 ?_
   refine dP rfl (pIdxI (P'.length) rfl rfl rfl (by go_num)) ?_
   refine dL rfl (vOwn EN rfl rfl (by repeat constructor) hj0 (by omega) (by rw [g0]; rfl)) ?_
   refine dW rfl (ow_callB (ec_val rfl rfl rfl Cf.h) rfl rfl (fun w hw => hcl x p hxm hpS.2 w (hw.pick (Pk.nil _)))) (fun _ _ => ?_)
   refine s1 ?_
   refine dDec (fun h33 => ?_) (fun h33 => ?_)
   ·have hkey : key x < key p := by
     unfold cmp3 at h33
     split at h33
     ·assumption
     ·split at h33 <;> omega
    refine dO [16] ?_
    refine s8 ?_
    refine kJ [(0, _), (1, _), (2, _), (3, _), (8, _), (9, _)] ?_
    refine xD [0, 1, 2, 3, 4, 5, 6, 7, 8, 9, 10, 11, 12, 13, 14, 15, 16, 17] [9, 13] ?_
    refine s8 ?_
    refine dP rfl (pIdxI (P'.length) rfl rfl rfl (by go_num)) ?_
    refine dL rfl (vOwn EN rfl rfl (by repeat constructor) hj0 (by omega) (by rw [g0]; rfl)) ?_
    refine s2 ?_
    refine dP rfl (pIdxI (P'.length + 1) rfl rfl rfl (by go_num)) ?_
    refine dL rfl (vOwn EN rfl rfl (by repeat constructor) hj1 (by omega) (by rw [g1]; rfl)) ?_
    refine dP rfl (pIdxI (P'.length + 1) rfl rfl rfl (by go_num)) ?_
    refine dW0 rfl (oStE EN [_] p (show P'.length + 1 < (P' ++ p :: x :: (Q ++ T)).length from hj1) (hi := Nat.le_refl _) (hr := rfl)) ?_
    refine dP rfl (pIdxI (P'.length) rfl rfl rfl (by go_num)) ?_
    refine dW0 rfl (oStE EN [_] x (show P'.length < ((P' ++ p :: x :: (Q ++ T)).set (P'.length + 1) p).length by rw [List.length_set]; exact hj0) (hi := Nat.le_refl _) (hr := rfl)) ?_
    refine s3 ?_
    refine kJ [(0, _), (1, _), (2, _), (3, _), (8, _), (9, _)] ?_
    refine s5 ?_
    refine xR (P', p :: Q) ⟨by dsimp only; rw [← hPQ, List.append_assoc]; rfl, fun y hy => (List.mem_cons.1 hy).elim (fun h => h ▸ hkey) (hQ y)⟩ (by dsimp only; omega) (hl := ⟨rfl, rfl, rfl, rfl, rfl, (congrArg (fun z => some (Value.int .i64 z)) (by dsimp only; omega)), trivial⟩) (hH := by dsimp only; rw [hsw]; repeat constructor)
   ·obtain ⟨fin1, fin2⟩ := fin (fun y hy => by
     have e : p = y := by simpa using hy
     subst e
     unfold lx
     unfold cmp3 at h33
     split at h33
     ·omega
     ·have := hpS.1; omega)
    refine dO [16] ?_
    refine s10 ?_
    refine kJ [(0, _), (1, _), (2, _), (3, _), (8, _)] ?_
    refine s5 ?_
    exact xR (i + 1, (P' ++ [p]) ++ x :: Q) ⟨by dsimp only; omega, by dsimp only; omega, fin1, fin2⟩ (by dsimp only; omega) (hl := ⟨rfl, rfl, rfl, rfl, (congrArg some (by go_num)), trivial⟩) (hH := by (try dsimp only); rw [show ((P' ++ [p]) ++ x :: Q) ++ d.drop (i + 1) = (P' ++ p :: x :: (Q ++ T)) by rw [hT]; simp]; repeat constructor)
 ·refine s7 ?_
  refine JR_end rfl ?_
  intro w' hw
  have hil : d.length ≤ i := by omega
  have e1 : d.take i = d := List.take_of_length_le hil
  have e2 : d.drop i = [] := List.drop_of_length_le hil
  rw [e1] at hS1
  rw [e2, List.append_nil, ← hS1.length_eq] at hw
  exact ⟨S, ⟨hS1, hS2⟩, rfl, hw.pick (by repeat constructor)⟩
end Go.Proofs.YtmcpnoailbmkkaaGreat
/- Layer 2: the nearest stones, sorted. -/
namespace Go.Proofs.YtmcpnoailbmkkaaGreat
open Go Go.RowKit Go.Proofs
attribute [local irreducible] J JQ JL JA JD

instance : Cf Tryz.prog 78 := ⟨fun _ _ => by kernel_rfl⟩
/-- What a call may have turned, a call of its callee's may have. -/
theorem Wd.nilM {B : Bs} {H : List It} {A : It} {w0 w : World} (hw : Wd B H w0) (hA : A ∈ H) (hr : A.ro = false) (hW : Wd ⟨w0, A.foot, none, []⟩ [] w) : Wd B [] w := by
 refine ⟨hW.os.trans hw.os, hW.tape.trans hw.tape, hW.output.trans hw.output, Nat.le_trans hw.size hW.size, fun b h1 h2 => (hW.block b (Nat.lt_of_lt_of_le h1 hw.size) (fun hf => ?_)).trans (hw.block b h1 h2), fun _ h => (by cases h), List.Pairwise.nil⟩
 rcases ((hw.ok A hA).2 b hf).1 with h | h | h
 ·rw [hr] at h; cases h
 ·exact h2 h
 ·omega
set_option maxRecDepth 100000 in
set_option maxHeartbeats 4000000 in
theorem stable_any (f : FuncId) (caps : Array Value) (key : Nat → Int) (d : List Nat) (g c : Nat) (w : World) [hf : Cf Tryz.prog f] (hA : (ownB 3 1 (some ⟨g, 0, none⟩) d.length c ((d).flatMap eN)).holds w) (hAf : ∀ b, (ownB 3 1 (some ⟨g, 0, none⟩) d.length c ((d).flatMap eN)).foot b → b < w.heap.size) (hinc : d.Pairwise (· < ·)) (hd20 : d.length ≤ 19) (hcl : ∀ i k : Nat, i ∈ d → k ∈ d → ∀ W, Wd ⟨w, (ownB 3 1 (some ⟨g, 0, none⟩) d.length c ((d).flatMap eN)).foot, none, []⟩ [] W → Calls Tryz.prog f (#[] ++ #[.int .i64 (i : Nat), .int .i64 (k : Nat)] ++ caps) W (Back (.int .i64 (cmp3 (key i) (key k))) W)) : Calls Tryz.prog 78 #[.slice (some ⟨g, 0, none⟩) d.length c, .int .i64 (d.length : Nat), .func (.func f) #[] caps] w (RetM (ownB 3 1 (some ⟨g, 0, none⟩) d.length c ((d).flatMap eN)) (fun d' : List Nat => d'.Perm d ∧ d'.Pairwise (lx key)) (fun _ => .tuple #[]) (fun d' => ownB 3 1 (some ⟨g, 0, none⟩) d'.length c ((d').flatMap eN)) w) := by
 refine J_start (B := ⟨w, (ownB 3 1 (some ⟨g, 0, none⟩) d.length c ((d).flatMap eN)).foot, none, []⟩) rfl rfl (vs := [.slice (some ⟨g, 0, none⟩) d.length c, .int .i64 (d.length : Nat), .func (.func f) #[] caps]) (k := 60) (l := [(0, .slice (some ⟨g, 0, none⟩) d.length c), (1, .int .i64 (d.length : Nat)), (2, .func (.func f) #[] caps)]) Tryz.func78 rfl rfl Tryz.ntmps78 rfl rfl (Wd.startM hA hAf) ?_
 refine s14 ?_
 refine xL (T := Unit) (fun _q => True) (fun _q => [(0, .slice (some ⟨g, 0, none⟩) d.length c), (1, .int .i64 (d.length : Nat)), (2, .func (.func f) #[] caps), (6, .int .i64 20), (7, .int .i64 0), (8, .int .i64 20)]) (fun _q => [ownB 3 1 (some ⟨g, 0, none⟩) d.length c ((d).flatMap eN)]) (fun _q => 0) () trivial ?_
 rintro _ -
 refine s6 ?_
 refine aDecF ?_ (by omega)
 refine s9 ?_
 refine kJ [(0, _), (1, _), (2, _), (6, _), (7, _)] ?_
 refine s5 ?_
 refine aW (oM (fun w hw => insertion_any f caps key d g c w (hw.ok (ownB 3 1 (some ⟨g, 0, none⟩) d.length c ((d).flatMap eN)) (by repeat constructor)).1 (fun b hb => ((hw.ok (ownB 3 1 (some ⟨g, 0, none⟩) d.length c ((d).flatMap eN)) (by repeat constructor)).2 b hb).2) hinc (by omega) (fun i k hi hk W hW => hcl i k hi hk W (hw.nilM (A := ownB 3 1 (some ⟨g, 0, none⟩) d.length c ((d).flatMap eN)) (by repeat constructor) rfl hW)))) (fun dd hdd => ?_)
 refine s3 ?_
 refine xL (T := Unit) (fun _q => True) (fun _q => [(0, .slice (some ⟨g, 0, none⟩) d.length c), (1, .int .i64 (d.length : Nat)), (2, .func (.func f) #[] caps), (6, .int .i64 20)]) (fun _q => [ownB 3 1 (some ⟨g, 0, none⟩) dd.length c (dd.flatMap eN)]) (fun _q => 0) () trivial ?_
 rintro _ -
 refine s6 ?_
 refine aDecF ?_ (by omega)
 refine s7 ?_
 refine JR_end rfl ?_
 intro w' hw
 exact ⟨dd, hdd, rfl, hw.pick (by repeat constructor)⟩
set_option maxRecDepth 100000 in
set_option maxHeartbeats 4000000 in
theorem sortStable_any (f : FuncId) (caps : Array Value) (key : Nat → Int) (d : List Nat) (g c : Nat) (w : World) [hf : Cf Tryz.prog f] (hA : (ownB 3 1 (some ⟨g, 0, none⟩) d.length c ((d).flatMap eN)).holds w) (hAf : ∀ b, (ownB 3 1 (some ⟨g, 0, none⟩) d.length c ((d).flatMap eN)).foot b → b < w.heap.size) (hinc : d.Pairwise (· < ·)) (hd20 : d.length ≤ 19) (hcl : ∀ i k : Nat, i ∈ d → k ∈ d → ∀ W, Wd ⟨w, (ownB 3 1 (some ⟨g, 0, none⟩) d.length c ((d).flatMap eN)).foot, none, []⟩ [] W → Calls Tryz.prog f (#[] ++ #[.int .i64 (i : Nat), .int .i64 (k : Nat)] ++ caps) W (Back (.int .i64 (cmp3 (key i) (key k))) W)) : Calls Tryz.prog 44 #[.slice (some ⟨g, 0, none⟩) d.length c, .func (.func f) #[] caps] w (RetM (ownB 3 1 (some ⟨g, 0, none⟩) d.length c ((d).flatMap eN)) (fun d' : List Nat => d'.Perm d ∧ d'.Pairwise (lx key)) (fun _ => .tuple #[]) (fun d' => ownB 3 1 (some ⟨g, 0, none⟩) d'.length c ((d').flatMap eN)) w) := by
 refine J_start (B := ⟨w, (ownB 3 1 (some ⟨g, 0, none⟩) d.length c ((d).flatMap eN)).foot, none, []⟩) rfl rfl (vs := [.slice (some ⟨g, 0, none⟩) d.length c, .func (.func f) #[] caps]) (k := 7) (l := [(0, .slice (some ⟨g, 0, none⟩) d.length c), (1, .func (.func f) #[] caps)]) Tryz.func44 rfl rfl Tryz.ntmps44 rfl rfl (Wd.startM hA hAf) ?_
 refine s5 ?_
 refine aW (oM (fun w hw => stable_any f caps key d g c w (hw.ok (ownB 3 1 (some ⟨g, 0, none⟩) d.length c ((d).flatMap eN)) (by repeat constructor)).1 (fun b hb => ((hw.ok (ownB 3 1 (some ⟨g, 0, none⟩) d.length c ((d).flatMap eN)) (by repeat constructor)).2 b hb).2) hinc hd20 (fun i k hi hk W hW => hcl i k hi hk W (hw.nilM (A := ownB 3 1 (some ⟨g, 0, none⟩) d.length c ((d).flatMap eN)) (by repeat constructor) rfl hW)))) (fun dd hdd => ?_)
 refine s1 ?_
 refine JR_end rfl ?_
 intro w' hw
 exact ⟨dd, hdd, rfl, hw.pick (by repeat constructor)⟩
set_option maxRecDepth 100000 in
set_option maxHeartbeats 4000000 in
theorem insertion_nil (fv : Value) (w : World) : Calls Tryz.prog 114 #[.slice none 0 0, .int .i64 0, .int .i64 0, fv] w (Back (.tuple #[]) w) := by
 refine J_enter (fun _ => False) (vs := [.slice none 0 0, .int .i64 0, .int .i64 0, fv]) (k := 49) (l := [(0, .slice none 0 0), (1, .int .i64 0), (2, .int .i64 0), (3, fv)]) Tryz.func114 rfl rfl Tryz.ntmps114 rfl rfl (Wd.start _) ?_
 refine s8 ?_
 refine xL (T := Unit) (fun _q => True) (fun _q => [(0, .slice none 0 0), (1, .int .i64 0), (2, .int .i64 0), (3, fv), (8, .int .i64 1)]) (fun _q => []) (fun _q => 0) () trivial ?_
 rintro _ -
 refine s6 ?_
 refine aDecF ?_ (by decide)
 refine s7 ?_
 refine JR_end rfl ?_
 intro w' hw
 exact ⟨rfl, hw.bel⟩
set_option maxRecDepth 100000 in
set_option maxHeartbeats 4000000 in
theorem stable_nil (fv : Value) (w : World) : Calls Tryz.prog 78 #[.slice none 0 0, .int .i64 0, fv] w (Back (.tuple #[]) w) := by
 refine J_enter (fun _ => False) (vs := [.slice none 0 0, .int .i64 0, fv]) (k := 60) (l := [(0, .slice none 0 0), (1, .int .i64 0), (2, fv)]) Tryz.func78 rfl rfl Tryz.ntmps78 rfl rfl (Wd.start _) ?_
 refine s14 ?_
 refine xL (T := Unit) (fun _q => True) (fun _q => [(0, .slice none 0 0), (1, .int .i64 0), (2, fv), (6, .int .i64 20), (7, .int .i64 0), (8, .int .i64 20)]) (fun _q => []) (fun _q => 0) () trivial ?_
 rintro _ -
 refine s6 ?_
 refine aDecF ?_ (by decide)
 refine s9 ?_
 refine kJ [(0, _), (1, _), (2, _), (6, _), (7, _)] ?_
 refine s5 ?_
 refine aCB (fun w hw => insertion_nil fv w) ?_
 refine s3 ?_
 refine xL (T := Unit) (fun _q => True) (fun _q => [(0, .slice none 0 0), (1, .int .i64 0), (2, fv), (6, .int .i64 20)]) (fun _q => []) (fun _q => 0) () trivial ?_
 rintro _ -
 refine s6 ?_
 refine aDecF ?_ (by decide)
 refine s7 ?_
 refine JR_end rfl ?_
 intro w' hw
 exact ⟨rfl, hw.bel⟩
set_option maxRecDepth 100000 in
set_option maxHeartbeats 4000000 in
theorem sortStable_nil (fv : Value) (w : World) : Calls Tryz.prog 44 #[.slice none 0 0, fv] w (Back (.tuple #[]) w) := by
 refine J_enter (fun _ => False) (vs := [.slice none 0 0, fv]) (k := 7) (l := [(0, .slice none 0 0), (1, fv)]) Tryz.func44 rfl rfl Tryz.ntmps44 rfl rfl (Wd.start _) ?_
 refine s5 ?_
 refine aCB (fun w hw => stable_nil fv w) ?_
 refine s1 ?_
 refine JR_end rfl ?_
 intro w' hw
 exact ⟨rfl, hw.bel⟩
end Go.Proofs.YtmcpnoailbmkkaaGreat
/- Layer 2: nearest. -/
namespace Go.Proofs.YtmcpnoailbmkkaaGreat
open Go Go.RowKit Go.Proofs
attribute [local irreducible] J JQ JL JA JD

/-- The nearest stones: a list, as a row. -/
structure NrT where
 L : List Nat
 A : Option Addr
 c : Nat
/-- Those of a list's stones that are in the house, the nearest first. -/
def NrP (l : List St) (L : List Nat) : Prop := L.Perm (hsA l) ∧ L.Pairwise (lx (sqAt l))
theorem NrP.uniq {l : List St} {L L' : List Nat} (h : NrP l L) (h' : NrP l L') : L = L' := by
 refine List.Perm.eq_of_pairwise (le := lx (sqAt l)) (fun a b _ _ h1 h2 => ?_) h.2 h'.2 (h.1.trans h'.1.symm)
 unfold lx at h1 h2; omega
theorem hsX_s {l : List St} {n k : Nat} (h : (hsA l)[n]? = some k) : hsX l (n + 1) = hsX l n ++ [k] := by
 obtain ⟨h1, h2⟩ := List.getElem?_eq_some_iff.1 h
 unfold hsX
 rw [List.take_succ_eq_append_getElem h1, h2]
theorem hsX_all (l : List St) : hsX l (hsA l).length = hsA l := List.take_length
theorem hsA_up (l : List St) : (hsA l).Pairwise (· < ·) := by
 unfold hsA hsN
 exact List.pairwise_lt_range.sublist List.filter_sublist
theorem hsA_mem {l : List St} {i : Nat} (h : i ∈ hsA l) : i < l.length := (hs_mem h).1
theorem hsX_len (l : List St) (n : Nat) : (hsX l n).length ≤ l.length := by
 unfold hsX
 exact Nat.le_trans (List.length_take_le' n (hsA l)) (hsN_len l l.length)
theorem own_cs {B : Bs} {H : List It} {ty k m c : Nat} {A : Option Addr} {xs : List Value} (hw : ∃ w, Wd B H w) (hm : ownB ty k A m c xs ∈ H) : (A = none ∧ m = 0 ∧ c = 0) ∨ ∃ g, A = some ⟨g, 0, none⟩ := by
 obtain ⟨w, hw⟩ := hw
 have h : w.ownsRow 0 ty k (.slice A m c) m xs := (hw.ok _ hm).1
 rcases h.2 with ⟨h1, h2⟩ | ⟨g, cap, cur, h1, -⟩
 ·injection h1 with e1 e2 e3
  exact .inl ⟨e1, e2, e3⟩
 ·injection h1 with e1
  exact .inr ⟨g, e1⟩
theorem Wd.keepM {B : Bs} {H : List It} {A C : It} {w0 w : World} (hw : Wd B H w0) (hW : Wd ⟨w0, A.foot, none, []⟩ [] w) (hk : Pk [C, A] H) (hr : C.ro = false) : C.holds w := by
 have h2 := hw.pick hk
 have hs := sepR.out ((List.pairwise_cons.1 h2.sep).1 A (by simp)) hr
 have o := h2.ok C (by simp)
 exact C.st w0 w (fun b hb => hW.block b (o.2 b hb).2 (fun h => hs b hb h)) o.1
theorem Wd.belM2 {H : List It} {A : It} {w0 w1 w : World} {r : Option Nat} {d : List Deferred} (hw : Wd ⟨w0, fun _ => False, r, d⟩ H w1) (hA : A ∈ H) (hAr : A.ro = false) (hW : Wd ⟨w1, A.foot, none, []⟩ [] w) : Below w0.heap.size w0 w := by
 refine ⟨hW.os.trans hw.os, hW.tape.trans hw.tape, hW.output.trans hw.output, Nat.le_trans hw.size hW.size, fun b hlt => (hW.block b (Nat.lt_of_lt_of_le hlt hw.size) (fun hf => ?_)).trans (hw.block b hlt (fun h => h))⟩
 have hlt' : b < w0.heap.size := hlt
 rcases ((hw.ok A hA).2 b hf).1 with h | h | h
 ·rw [hAr] at h; cases h
 ·exact h
 ·have : w0.heap.size ≤ b := h
  omega
set_option maxRecDepth 100000 in
set_option maxHeartbeats 4000000 in
theorem nearest_any (l : List St) (v : Value) (w : World) (hrow : Arr 4 eT w v l) (hok : ∀ s ∈ l, OkS s.x s.y) (hpl : ∀ s ∈ l, Play s.x s.y) (hl9 : l.length ≤ 19) : Calls Tryz.prog 17 #[v] w (Ret w (fun t : NrT => NrP l t.L) (fun t => .slice t.A t.L.length t.c) (fun t => [ownB 3 1 t.A t.L.length t.c (t.L.flatMap eN)])) := by
 have hrow0 := hrow
 obtain ⟨A, cap, rfl, -, ⟨hl, -⟩, hA⟩ := hrow
 refine J_startM (B := bs w) rfl rfl (vs := [.slice A l.length cap]) (k := 16) (l := [(0, .slice A l.length cap)]) Tryz.func17 rfl rfl Tryz.ntmps17 rfl rfl ((Wd.start (bs w))) ?_
 refine s2 ?_
 refine aW (oX [_]) (fun b1 hb1 => ?_)
 refine s5 ?_
 refine aW oA (fun b3 hb3 => ?_)
 refine s4 ?_
 refine J_own0 3 1 ?_
 refine J_defs ?_
 refine s2 ?_
 refine aW (oR (fun w hw => housed_any A l.length cap w)) (fun bh _ => ?_)
 refine s3 ?_
 refine J_range2 (T := HsT) (Y := Nat × St) (Ds := []) (p := 7) (q := 8) (fun t => t.n ≤ (hsA l).length) (fun t X => [cellB bh [.slice A l.length cap] 22, cellB b1 [.slice A l.length cap] 22, cellB b3 [.slice t.A (hsX l t.n).length t.c] 27, ownB 3 1 t.A (hsX l t.n).length t.c ((hsX l t.n).flatMap eN), X]) (fun t y => (hsA l)[t.n]? = some y.1 ∧ l[y.1]? = some y.2) (fun y => .int .i64 (y.1 : Nat)) (fun y => Stv y.2) (fun t y X => [cellB bh [.slice A l.length cap] 22, cellB b1 [.slice A l.length cap] 22, cellB b3 [.slice t.A (hsX l t.n).length t.c] 27, ownB 3 1 t.A (hsX l t.n).length t.c ((hsX l t.n).flatMap eN), X]) (fun t t' => t'.n = t.n + 1) (fun t => t.n = (hsA l).length) (fun t => t.n = 0) (fun y => [(1, .pointer (some ⟨b1, 0, none⟩)), (3, .pointer (some ⟨b3, 0, none⟩)), (4, .int .i64 (y.1 : Nat))]) (housed1_any l A cap bh b3 w (cellB b1 [.slice A l.length cap] 22) hrow0 hok) (⟨0, none, 0⟩) ((Nat.zero_le _)) (rfl) ?_ ?_ ?_
 ·rintro lp t ⟨yk, ys⟩ X ht ⟨hy1, hy2⟩
  dsimp only at hy1 hy2 ⊢
  have hxl := hsX_len l t.n
  refine kJ [(1, _), (3, _), (7, _)] ?_
  refine s3 ?_
  exact xE () trivial
 ·rintro lp t ⟨yk, ys⟩ X ht ⟨hy1, hy2⟩
  dsimp only at hy1 hy2 ⊢
  have hxl := hsX_len l t.n
  refine s4 ?_
  refine aW (ow_sliceC (vs := [_]) (ty := 3) rfl rfl (by rfl) rfl rfl (fun _ => by kernel_rfl)) (fun b11 hb11 => ?_)
  refine aS (oApp (sl := 27) EN (yk)) (fun A12 c12 => ?_)
  refine s3 ?_
  have hs := hsX_s hy1
  exact xE ⟨t.n + 1, A12, c12⟩ ⟨rfl, by have := (List.getElem?_eq_some_iff.1 hy1).1; dsimp only; omega⟩ (hH := by (try dsimp only); rw [hs]; repeat constructor)
 ·rintro D t ht hfin
  refine s3 ?_
  have ht2 : hsX l t.n = hsA l := by rw [hfin]; exact hsX_all l
  rw [ht2]
  refine J_fact (fun hw => ?_)
  rcases own_cs hw (ty := 3) (k := 1) (A := t.A) (m := (hsA l).length) (c := t.c) (xs := (hsA l).flatMap eN) (by repeat constructor) with ⟨hz1, hz2, hz3⟩ | ⟨g, hz1⟩
  ·clear hw
   have hz4 : hsA l = [] := List.length_eq_zero_iff.1 hz2
   rw [hz1, hz3, hz4]
   refine kJ [(1, _), (3, _)] ?_
   refine s3 ?_
   refine aCB (fun w hw => sortStable_nil _ w) ?_
   refine s3 ?_
   refine kJ [(3, _)] ?_
   refine s6 ?_
   refine JR_marks (fun X => [ownB 3 1 none 0 0 [], X]) rfl (fun _ => rr_tmp rfl) ?_
   intro w' hw
   exact ⟨⟨[], none, 0⟩, ⟨by rw [hz4], List.Pairwise.nil⟩, rfl, (hw.un (r' := none) (d' := [])).pick (by repeat constructor)⟩
  ·clear hw
   rw [hz1]
   refine kJ [(1, _), (3, _)] ?_
   refine s3 ?_
   refine aW (oM (fun w hw => sortStable_any 45 #[.pointer (some ⟨b1, 0, none⟩)] (sqAt l) (hsA l) g t.c w (hw.ok (ownB 3 1 (some ⟨g, 0, none⟩) (hsA l).length t.c ((hsA l).flatMap eN)) (by repeat constructor)).1 (fun b hb => ((hw.ok (ownB 3 1 (some ⟨g, 0, none⟩) (hsA l).length t.c ((hsA l).flatMap eN)) (by repeat constructor)).2 b hb).2) (hsA_up l) (by have := hsN_len l l.length; unfold hsA; omega) (fun i k hi hk W hW => near1_any l A cap b1 i k W (hw.keepM (A := ownB 3 1 (some ⟨g, 0, none⟩) (hsA l).length t.c ((hsA l).flatMap eN)) (C := cellB b1 [.slice A l.length cap] 22) hW (by repeat constructor) rfl) (hrow0.up ET (hw.belM2 (A := ownB 3 1 (some ⟨g, 0, none⟩) (hsA l).length t.c ((hsA l).flatMap eN)) (by repeat constructor) rfl hW)) (hsA_mem hi) (hsA_mem hk) hpl))) (fun dd hdd => ?_)
   refine s3 ?_
   refine kJ [(3, _)] ?_
   refine s6 ?_
   refine JR_marks (fun X => [ownB 3 1 (some ⟨g, 0, none⟩) dd.length t.c (dd.flatMap eN), X]) rfl (fun _ => rr_tmp rfl) ?_
   intro w' hw
   have hdl := hdd.1.length_eq
   exact ⟨⟨dd, some ⟨g, 0, none⟩, t.c⟩, hdd, by dsimp only; rw [hdl], (hw.un (r' := none) (d' := [])).pick (by repeat constructor)⟩
end Go.Proofs.YtmcpnoailbmkkaaGreat
/- Layer 2, in plain Lean: the count of the program and that of the document are one. (Carried over from wip/sheet's V, Rc, Cn.) -/
namespace Go.Proofs.YtmcpnoailbmkkaaGreat
open Go Go.RowKit Go.Proofs
def teamAt (l : List St) (i : Nat) : Int := (l.getD i ⟨0, 0, 0, 0⟩).t
/-! V -/
/-- How many of the first lim are nearer than far, from the first one on. -/
def ptsN (l : List St) (d : List Nat) (lim : Nat) (far : Int) : Nat := ((d.take lim).takeWhile fun i => decide (sqAt l i < far)).length

/-- Who counts, by the order d. -/
def cntT (l : List St) (d : List Nat) : Int × Int :=
  match d with
  | [] => (-1, 0)
  | a :: _ =>
    if fidx (fun i => teamAt l i != teamAt l a) d < 0 then (teamAt l a, (d.length : Nat)) else
      if ptsN l d (fidx (fun i => teamAt l i != teamAt l a) d).toNat (sqAt l (d.getD (fidx (fun i => teamAt l i != teamAt l a) d).toNat 0)) = 0 then (-1, 0)
      else (teamAt l a, (ptsN l d (fidx (fun i => teamAt l i != teamAt l a) d).toNat (sqAt l (d.getD (fidx (fun i => teamAt l i != teamAt l a) d).toNat 0)) : Nat))

theorem ptsN_at {l : List St} {d : List Nat} {lim k : Nat} {far : Int} (hl : lim ≤ d.length) (hk : k ≤ lim) (h1 : ∀ j (hj : j < d.length), j < k → sqAt l (d[j]'hj) < far)
    (h2 : k = lim ∨ ∃ h : k < d.length, ¬ sqAt l (d[k]'h) < far) : ptsN l d lim far = k := by
  unfold ptsN
  obtain ⟨p, hp⟩ : ∃ p : Nat → Bool, (fun i => decide (sqAt l i < far)) = p := ⟨_, rfl⟩
  have hp1 : ∀ j (hj : j < d.length), j < k → p (d[j]'hj) = true := fun j hj h => by rw [← hp]; exact decide_eq_true (h1 j hj h)
  have hp2 : k = lim ∨ ∃ h : k < d.length, p (d[k]'h) = false := h2.imp_right fun ⟨h, h3⟩ => ⟨h, by rw [← hp]; exact decide_eq_false h3⟩
  rw [hp]
  clear hp h1 h2
  induction d generalizing lim k with
  | nil => simp at hl; subst hl; simp; omega
  | cons a d ih =>
    cases lim with
    | zero => simp; omega
    | succ lim =>
      rw [List.take_succ_cons]
      cases k with
      | zero =>
        rcases hp2 with h | ⟨h, h3⟩
        · omega
        · simp only [List.getElem_cons_zero] at h3
          rw [List.takeWhile_cons_of_neg (by simp [h3])]; rfl
      | succ k =>
        have h0 := hp1 0 (by simp) (by omega)
        simp only [List.getElem_cons_zero] at h0
        rw [List.takeWhile_cons_of_pos h0, List.length_cons]
        congr 1
        refine ih (lim := lim) (k := k) (by simpa using hl) (by omega) (fun j hj h => ?_) ?_
        · have := hp1 (j + 1) (by simp; omega) (by omega)
          simpa using this
        · rcases hp2 with h | ⟨h, h3⟩
          · exact .inl (by omega)
          · exact .inr ⟨by simpa using h, by simpa using h3⟩

/-! Rc -/
/-- The square of the distance of a team's nearest stone in the house, among the first k. -/
def bT (l : List St) (t : Int) : Nat → Option Int
  | 0 => none
  | k + 1 => if (teamAt l k = t ∧ k ∈ hsA l) ∧ (bT l t k = none ∨ sqAt l k < (bT l t k).getD 0) then some (sqAt l k) else bT l t k

/-- How many of the first k stones are a team's, in the house, and nearer than a limit. -/
def cK (l : List St) (t : Int) (lim : Option Int) : Nat → Nat
  | 0 => 0
  | k + 1 => cK l t lim k + if (teamAt l k = t ∧ k ∈ hsA l) ∧ (lim = none ∨ sqAt l k < lim.getD 0) then 1 else 0

theorem cK_le (l : List St) (t : Int) (lim : Option Int) : ∀ k, cK l t lim k ≤ k
  | 0 => Nat.le_refl _
  | k + 1 => by have := cK_le l t lim k; unfold cK; split <;> omega

/-- Who counts, as the document says it. -/
def refP (l : List St) (x0 x1 : Option Int) : Int × Int :=
  match x0, x1 with
  | none, none => (-1, 0)
  | some _, none => (0, (cK l 0 none l.length : Nat))
  | none, some _ => (1, (cK l 1 none l.length : Nat))
  | some a, some b => if a = b then (-1, 0) else if b < a then (1, (cK l 1 (some a) l.length : Nat)) else (0, (cK l 0 (some b) l.length : Nat))

def refT (l : List St) : Int × Int := refP l (bT l 0 l.length) (bT l 1 l.length)

/-! Cn -/
theorem bT_spec (l : List St) (t : Int) : ∀ k, (bT l t k = none ∧ ∀ i, i < k → i ∈ hsA l → teamAt l i ≠ t) ∨
    (∃ m, bT l t k = some m ∧ (∃ i, i < k ∧ i ∈ hsA l ∧ teamAt l i = t ∧ sqAt l i = m) ∧ ∀ i, i < k → i ∈ hsA l → teamAt l i = t → m ≤ sqAt l i)
  | 0 => .inl ⟨rfl, fun _ h => by omega⟩
  | k + 1 => by
    have ih := bT_spec l t k
    unfold bT
    by_cases hc : (teamAt l k = t ∧ k ∈ hsA l) ∧ (bT l t k = none ∨ sqAt l k < (bT l t k).getD 0)
    · rw [if_pos hc]
      refine .inr ⟨_, rfl, ⟨k, by omega, hc.1.2, hc.1.1, rfl⟩, fun i hi h1 h2 => ?_⟩
      by_cases hik : i = k
      · subst hik; exact Int.le_refl _
      · rcases ih with ⟨h3, h4⟩ | ⟨m, h3, -, h4⟩
        · exact absurd h2 (h4 i (by omega) h1)
        · have := h4 i (by omega) h1 h2
          rw [h3] at hc
          rcases hc.2 with h5 | h5
          · cases h5
          · simp at h5; omega
    · rw [if_neg hc]
      rcases ih with ⟨h3, h4⟩ | ⟨m, h3, ⟨i0, h5, h6, h7, h8⟩, h4⟩
      · refine .inl ⟨h3, fun i hi h1 h2 => ?_⟩
        by_cases hik : i = k
        · subst hik; exact hc ⟨⟨h2, h1⟩, .inl h3⟩
        · exact h4 i (by omega) h1 h2
      · refine .inr ⟨m, h3, ⟨i0, by omega, h6, h7, h8⟩, fun i hi h1 h2 => ?_⟩
        by_cases hik : i = k
        · subst hik
          rcases Int.lt_or_le (sqAt l i) m with h | h
          · exact absurd ⟨⟨h2, h1⟩, .inr (by rw [h3]; exact h)⟩ hc
          · exact h
        · exact h4 i (by omega) h1 h2

theorem cK_filter (l : List St) (t : Int) (lim : Option Int) : ∀ k, cK l t lim k = ((List.range k).filter fun i => decide (i ∈ hsA l) && decide (teamAt l i = t ∧ (lim = none ∨ sqAt l i < lim.getD 0))).length
  | 0 => rfl
  | k + 1 => by
    have ih := cK_filter l t lim k
    unfold cK
    rw [ih, List.range_succ, List.filter_append, List.length_append]
    congr 1
    by_cases hc : (teamAt l k = t ∧ k ∈ hsA l) ∧ (lim = none ∨ sqAt l k < lim.getD 0)
    · rw [if_pos hc]
      simp [hc.1.1, hc.1.2, hc.2]
    · rw [if_neg hc]
      symm
      rw [List.length_eq_zero_iff, List.filter_eq_nil_iff]
      intro i hi
      rw [List.mem_singleton] at hi
      subst hi
      simp only [Bool.and_eq_true, decide_eq_true_eq]
      exact fun h => hc ⟨⟨h.2.1, h.1⟩, h.2.2⟩


theorem near_nodup {l : List St} {d : List Nat} (hd : NrP l d) : d.Nodup :=
  hd.2.imp fun {a b} h e => by subst e; unfold lx at h; omega

theorem cK_near {l : List St} {d : List Nat} (hd : NrP l d) (t : Int) (lim : Option Int) : cK l t lim l.length = (d.filter fun i => decide (teamAt l i = t ∧ (lim = none ∨ sqAt l i < lim.getD 0))).length := by
  rw [cK_filter]
  apply List.Perm.length_eq
  refine (List.perm_ext_iff_of_nodup ((List.nodup_range).filter _) ((near_nodup hd).filter _)).2 fun i => ?_
  simp only [List.mem_filter, List.mem_range, Bool.and_eq_true, decide_eq_true_eq]
  constructor
  · rintro ⟨-, h1, h2⟩
    exact ⟨hd.1.mem_iff.2 h1, h2⟩
  · rintro ⟨h1, h2⟩
    have := hd.1.mem_iff.1 h1
    exact ⟨hsA_mem this, this, h2⟩

theorem fidx_two {α : Type} (p : α → Bool) (l : List α) : (fidx p l = -1 ∧ ∀ j (hj : j < l.length), p (l[j]'hj) = false) ∨
    ∃ k, ∃ hk : k < l.length, fidx p l = k ∧ p (l[k]'hk) = true ∧ ∀ j (hj : j < k), p (l[j]'(by omega)) = false := by
  by_cases h : l.findIdx p < l.length
  · refine .inr ⟨l.findIdx p, h, by unfold fidx; rw [if_pos h], List.findIdx_getElem, fun j hj => ?_⟩
    have := List.not_of_lt_findIdx hj
    simpa using this
  · refine .inl ⟨by unfold fidx; rw [if_neg h], fun j hj => ?_⟩
    have := List.not_of_lt_findIdx (p := p) (xs := l) (i := j) (by omega)
    simpa using this

theorem near_mono {l : List St} {d : List Nat} (hd : NrP l d) {i j : Nat} (hj : j < d.length) (hij : i ≤ j) : sqAt l (d[i]'(by omega)) ≤ sqAt l (d[j]'hj) := by
  by_cases e : i = j
  · subst e; exact Int.le_refl _
  · have := List.pairwise_iff_getElem.1 hd.2 i j (by omega) hj (by omega)
    unfold lx at this; omega

/-- A team's nearest stone, by the order d. -/
theorem bT_none {l : List St} {d : List Nat} (hd : NrP l d) {t : Int} (h : ∀ i ∈ d, teamAt l i ≠ t) : bT l t l.length = none := by
  rcases bT_spec l t l.length with ⟨h1, -⟩ | ⟨m, -, ⟨i, -, h2, h3, -⟩, -⟩
  · exact h1
  · exact absurd h3 (h i (hd.1.mem_iff.2 h2))

theorem bT_some {l : List St} {d : List Nat} (hd : NrP l d) {t : Int} {k : Nat} (hk : k < d.length) (h1 : teamAt l (d[k]'hk) = t) (h2 : ∀ j (hj : j < k), teamAt l (d[j]'(by omega)) ≠ t) :
    bT l t l.length = some (sqAt l (d[k]'hk)) := by
  have hm : d[k]'hk ∈ hsA l := hd.1.mem_iff.1 (List.getElem_mem _)
  rcases bT_spec l t l.length with ⟨-, h3⟩ | ⟨m, h3, ⟨i, hi, h4, h5, h6⟩, h7⟩
  · exact absurd h1 (h3 _ (hsA_mem hm) hm)
  · rw [h3]
    have ha := h7 _ (hsA_mem hm) hm h1
    obtain ⟨j, hj, he⟩ := List.getElem_of_mem (hd.1.mem_iff.2 h4)
    have hkj : k ≤ j := by
      rcases Nat.lt_or_ge j k with h | h
      · exact absurd (by rw [he]; exact h5) (h2 j h)
      · exact h
    have hb := near_mono hd hj hkj
    rw [he, h6] at hb
    rw [show m = sqAt l (d[k]'hk) by omega]

theorem lead_of (P : Nat → Prop) [DecidablePred P] : ∀ d : List Nat, ∃ p, p ≤ d.length ∧ (∀ j (hj : j < d.length), j < p → P (d[j]'hj)) ∧ (p = d.length ∨ ∃ h : p < d.length, ¬ P (d[p]'h))
  | [] => ⟨0, by simp, fun j hj => by simp at hj, .inl rfl⟩
  | a :: d => by
    by_cases ha : P a
    · obtain ⟨p, h1, h2, h3⟩ := lead_of P d
      refine ⟨p + 1, by simpa using h1, fun j hj hjp => ?_, ?_⟩
      · cases j with
        | zero => exact ha
        | succ j => exact h2 j (by simpa using hj) (by omega)
      · rcases h3 with h3 | ⟨h, h3⟩
        · exact .inl (by simp [h3])
        · exact .inr ⟨by simpa using h, by simpa using h3⟩
    · exact ⟨0, by simp, fun j hj h => by omega, .inr ⟨by simp, by simpa using ha⟩⟩

theorem cnt_ref {l : List St} {d : List Nat} (hd : NrP l d) (ht : ∀ i ∈ d, teamAt l i = 0 ∨ teamAt l i = 1) : cntT l d = refT l := by
  cases hdd : d with
  | nil =>
    subst hdd
    have e0 := bT_none hd (t := 0) (by simp)
    have e1 := bT_none hd (t := 1) (by simp)
    unfold refT; rw [e0, e1]; rfl
  | cons a ds =>
    have hd0 : 0 < d.length := by rw [hdd]; simp
    have e0 : d[0]'hd0 = a := by subst hdd; rfl
    have hc : cntT l d = if fidx (fun i => teamAt l i != teamAt l a) d < 0 then (teamAt l a, ((d.length : Nat) : Int)) else
      if ptsN l d (fidx (fun i => teamAt l i != teamAt l a) d).toNat (sqAt l (d.getD (fidx (fun i => teamAt l i != teamAt l a) d).toNat 0)) = 0 then (-1, 0)
      else (teamAt l a, ((ptsN l d (fidx (fun i => teamAt l i != teamAt l a) d).toNat (sqAt l (d.getD (fidx (fun i => teamAt l i != teamAt l a) d).toNat 0)) : Nat) : Int)) := by subst hdd; rfl
    rw [← hdd]
    rw [hc]
    obtain ⟨T, hT⟩ : ∃ T, teamAt l a = T := ⟨_, rfl⟩
    rw [hT]
    have hT01 : T = 0 ∨ T = 1 := by rw [← hT]; exact ht a (by rw [hdd]; simp)
    have hbT : bT l T l.length = some (sqAt l a) := by
      have := bT_some hd hd0 (t := T) (by rw [e0, hT]) (fun j hj => by omega)
      rwa [e0] at this
    rcases fidx_two (fun i => teamAt l i != T) d with ⟨h1, h2⟩ | ⟨m, hm, h1, h2, h3⟩
    · rw [h1, if_pos (by omega)]
      have hall : ∀ i ∈ d, teamAt l i = T := fun i hi => by
        obtain ⟨j, hj, rfl⟩ := List.getElem_of_mem hi
        have := h2 j hj
        simpa using this
      have hcK : cK l T none l.length = d.length := by
        rw [cK_near hd, List.filter_eq_self.2]
        intro i hi
        simp [hall i hi]
      unfold refT
      rcases hT01 with rfl | rfl
      · rw [hbT, bT_none hd (t := 1) (fun i hi => by rw [hall i hi]; omega)]
        show _ = ((0 : Int), ((cK l 0 none l.length : Nat) : Int))
        rw [hcK]
      · rw [hbT, bT_none hd (t := 0) (fun i hi => by rw [hall i hi]; omega)]
        show _ = ((1 : Int), ((cK l 1 none l.length : Nat) : Int))
        rw [hcK]
    · rw [h1, if_neg (by omega), Int.toNat_natCast]
      have hgd : d.getD m 0 = d[m]'hm := by rw [List.getD_eq_getElem?_getD, List.getElem?_eq_getElem hm]; rfl
      rw [hgd]
      obtain ⟨far, hfar⟩ : ∃ far, sqAt l (d[m]'hm) = far := ⟨_, rfl⟩
      rw [hfar]
      have hbef : ∀ j (hj : j < m), teamAt l (d[j]'(by omega)) = T := fun j hj => by have := h3 j hj; simpa using this
      have hne : teamAt l (d[m]'hm) ≠ T := by simpa using h2
      have hU : teamAt l (d[m]'hm) = 1 - T := by
        have := ht _ (List.getElem_mem hm)
        rcases hT01 with rfl | rfl <;> rcases this with h | h <;> omega
      have hbU : bT l (1 - T) l.length = some far := by
        have := bT_some hd hm (t := 1 - T) hU (fun j hj => by rw [hbef j hj]; rcases hT01 with rfl | rfl <;> omega)
        rwa [hfar] at this
      -- the leading ones
      obtain ⟨p, hpl, hlt, hend⟩ := lead_of (fun i => sqAt l i < far) d
      have hpm : p ≤ m := by
        rcases Nat.lt_or_ge m p with h | h
        · have := hlt m hm h; omega
        · exact h
      have hge : ∀ j (hj : j < d.length), p ≤ j → far ≤ sqAt l (d[j]'hj) := fun j hj hjp => by
        have hpd : p < d.length := by omega
        have h6 : ¬ sqAt l (d[p]'hpd) < far := by
          rcases hend with h | ⟨h, h'⟩
          · omega
          · exact h'
        have := near_mono hd hj hjp
        omega
      have hpts : ptsN l d m far = p := by
        refine ptsN_at (by omega) hpm hlt ?_
        by_cases e : p = m
        · exact .inl e
        · exact .inr ⟨by omega, by have := hge p (by omega) (Nat.le_refl _); omega⟩
      have hcK : cK l T (some far) l.length = p := by
        rw [cK_near hd]
        have hsp : d = d.take p ++ d.drop p := (List.take_append_drop p d).symm
        conv => lhs; rw [hsp]
        rw [List.filter_append, List.length_append, List.filter_eq_self.2, List.filter_eq_nil_iff.2]
        · rw [List.length_take, List.length_nil]; omega
        · intro i hi
          obtain ⟨j, hj, rfl⟩ := List.getElem_of_mem hi
          rw [List.length_drop] at hj
          rw [List.getElem_drop]
          have := hge (p + j) (by omega) (by omega)
          simp
          intro _
          omega
        · intro i hi
          obtain ⟨j, hj, rfl⟩ := List.getElem_of_mem hi
          rw [List.length_take] at hj
          rw [List.getElem_take]
          simp [hbef j (by omega), hlt j (by omega) (by omega)]
      rw [hpts]
      have h0 : sqAt l a ≤ far := by
        have := near_mono hd hm (Nat.zero_le m)
        rw [e0, hfar] at this; exact this
      have hp0 : p = 0 ↔ sqAt l a = far := by
        constructor
        · intro h
          have := hge 0 hd0 (by omega)
          rw [e0] at this; omega
        · intro h
          rcases Nat.eq_zero_or_pos p with h' | h'
          · exact h'
          · have := hlt 0 hd0 h'
            rw [e0] at this; omega
      unfold refT
      rcases hT01 with rfl | rfl
      · have hb1 : bT l 1 l.length = some far := hbU
        rw [hbT, hb1]
        show _ = (if sqAt l a = far then _ else if far < sqAt l a then _ else _ : Int × Int)
        by_cases hp1 : p = 0
        · rw [if_pos hp1, if_pos (hp0.1 hp1)]
        · rw [if_neg hp1, if_neg (fun h => hp1 (hp0.2 h)), if_neg (by omega), hcK]
      · have : bT l 0 l.length = some far := hbU
        rw [hbT, this]
        show _ = (if far = sqAt l a then _ else if sqAt l a < far then _ else _ : Int × Int)
        by_cases hp1 : p = 0
        · rw [if_pos hp1, if_pos (hp0.1 hp1).symm]
        · rw [if_neg hp1, if_neg (fun h => hp1 (hp0.2 h.symm)), if_pos (by have := fun h => hp1 (hp0.2 h); omega), hcK]


end Go.Proofs.YtmcpnoailbmkkaaGreat
/- Layer 6, in plain Lean: readings, the scores that they allow; the exact count is one of them. -/
namespace Go.Proofs.YtmcpnoailbmkkaaGreat
open Go Go.RowKit Go.Proofs
/-- A reading: the stone, from where, to where. -/
structure Rdg where
 i : Int
 lo : Int
 hi : Int
def awB (s : List Rdg) : Bool := !(s.any fun r => decide (r.hi ≤ 129368064))
def nrL (s : List Rdg) : Int := s.foldl (fun a r => min a r.lo) 129368065
def nrH (s : List Rdg) : Int := s.foldl (fun a r => min a r.hi) 129368064
def muN (s : List Rdg) (k : Int) : Nat := s.countP fun r => decide (r.hi ≤ k)
def caN (s : List Rdg) (k : Int) : Nat := s.countP fun r => decide (r.lo ≤ k)
def limL (s o : List Rdg) : List Int := (if awB o = true then [129368064] else []) ++ (if nrL o > nrH o then [] else (nrL o - 1) :: (s.flatMap fun r => [r.lo, r.hi]).filter fun d => decide (nrL o ≤ d ∧ d ≤ nrH o - 1))
def blB (a b : List Rdg) : Bool := (awB a && awB b) || decide (max (nrL a) (nrL b) ≤ min (nrH a) (nrH b))
def scT (s o : List Rdg) (n : Int) : Prop := ∃ k ∈ limL s o, max 1 (muN s k : Int) ≤ n ∧ n ≤ (caN s k : Int)
/-- The scores that two teams may have. -/
def scP (a b : List Rdg) (t n : Int) : Prop := (t = -1 ∧ n = 0 ∧ blB a b = true) ∨ (t = 0 ∧ scT a b n) ∨ (t = 1 ∧ scT b a n)
/-- lo and hi are the root of D, rounded down and up. -/
structure Rt (D lo hi : Int) : Prop where
 l0 : 0 ≤ lo
 l1 : lo * lo ≤ D
 l2 : D < (lo + 1) * (lo + 1)
 h1 : D ≤ hi * hi
 h2 : hi = lo ∨ (hi = lo + 1 ∧ lo * lo < D)
theorem sq_le2 {a b : Int} (h0 : 0 ≤ a) (h : a ≤ b) : a * a ≤ b * b := Int.mul_le_mul h h h0 (by omega)
theorem sq_lt2 {a b : Int} (h0 : 0 ≤ a) (h : a < b) : a * a < b * b := by
 have h1 : a * a ≤ a * b := Int.mul_le_mul_of_nonneg_left (by omega) h0
 have h2 : a * b < b * b := Int.mul_lt_mul_of_pos_right h (by omega)
 omega
theorem Rt.lh {D lo hi : Int} (h : Rt D lo hi) : lo ≤ hi ∧ hi ≤ lo + 1 := by rcases h.h2 with e | ⟨e, -⟩ <;> omega
theorem Rt.lo_le {D lo hi k : Int} (h : Rt D lo hi) (hk : 0 ≤ k + 1) : lo ≤ k ↔ D < (k + 1) * (k + 1) := by
 constructor
 ·intro hl
  have := sq_le2 (show 0 ≤ lo + 1 by have := h.l0; omega) (show lo + 1 ≤ k + 1 by omega)
  have := h.l2; omega
 ·intro hd
  rcases Int.lt_or_le k lo with hc | hc
  ·have := sq_le2 hk (show k + 1 ≤ lo by omega)
   have := h.l1; omega
  ·exact hc
theorem Rt.hi_le {D lo hi k : Int} (h : Rt D lo hi) (hk : 0 ≤ k) : hi ≤ k ↔ D ≤ k * k := by
 have h0 := h.l0
 have hlh := h.lh
 constructor
 ·intro hl
  have := sq_le2 (show 0 ≤ hi by omega) hl
  have := h.h1; omega
 ·intro hd
  rcases Int.lt_or_le k hi with hc | hc
  ·rcases h.h2 with e | ⟨e, hlt⟩
   ·have := sq_lt2 hk hc
    have := h.l1
    rw [e] at *; omega
   ·have := sq_le2 hk (show k ≤ lo by omega)
    omega
  ·exact hc
theorem Rt.uniq {D lo hi lo' hi' : Int} (h : Rt D lo hi) (h' : Rt D lo' hi') : lo = lo' ∧ hi = hi' := by
 have a := (h.lo_le (k := lo') (by have := h'.l0; omega)).2 h'.l2
 have b := (h'.lo_le (k := lo) (by have := h.l0; omega)).2 h.l2
 have hh : 0 ≤ hi := by have := h.l0; have := h.lh; omega
 have hh' : 0 ≤ hi' := by have := h'.l0; have := h'.lh; omega
 have c := (h.hi_le hh').2 h'.h1
 have d := (h'.hi_le hh).2 h.h1
 omega
theorem Rt.mono {D lo hi D' lo' hi' : Int} (h : Rt D lo hi) (h' : Rt D' lo' hi') (hd : D ≤ D') : lo ≤ lo' ∧ hi ≤ hi' := by
 refine ⟨(h.lo_le (k := lo') (by have := h'.l0; omega)).2 (by have := h'.l2; omega), (h.hi_le (by have := h'.l0; have := h'.lh; omega)).2 (by have := h'.h1; omega)⟩
theorem fold_min {α : Type} (g : α → Int) : ∀ (s : List α) (z : Int), (s.foldl (fun a r => min a (g r)) z ≤ z ∧ ∀ r ∈ s, s.foldl (fun a r => min a (g r)) z ≤ g r) ∧ (s.foldl (fun a r => min a (g r)) z = z ∨ ∃ r ∈ s, s.foldl (fun a r => min a (g r)) z = g r)
 | [], z => ⟨⟨Int.le_refl _, fun _ h => by cases h⟩, .inl rfl⟩
 | a :: s, z => by
  have ih := fold_min g s (min z (g a))
  rw [List.foldl_cons]
  obtain ⟨⟨h1, h2⟩, h3⟩ := ih
  refine ⟨⟨by omega, fun r hr => ?_⟩, ?_⟩
  ·rcases List.mem_cons.1 hr with e | e
   ·subst e; omega
   ·exact h2 r e
  ·rcases h3 with h | ⟨r, hr, h⟩
   ·by_cases hc : z ≤ g a
    ·exact .inl (by omega)
    ·exact .inr ⟨a, by simp, by omega⟩
   ·exact .inr ⟨r, by simp [hr], h⟩
/-- A team's readings, by a function that tells the squares. -/
def RtL (s : List (Int × Rdg)) : Prop := ∀ p ∈ s, Rt p.1 p.2.lo p.2.hi
def rs (s : List (Int × Rdg)) : List Rdg := s.map (·.2)
theorem mu_eq {s : List (Int × Rdg)} (h : RtL s) {k : Int} (hk : 0 ≤ k) : muN (rs s) k = s.countP fun p => decide (p.1 ≤ k * k) := by
 unfold muN rs
 rw [List.countP_map]
 refine List.countP_congr fun p hp => ?_
 simp only [Function.comp, decide_eq_true_eq]
 exact (h p hp).hi_le hk
theorem ca_eq {s : List (Int × Rdg)} (h : RtL s) {k : Int} (hk : 0 ≤ k + 1) : caN (rs s) k = s.countP fun p => decide (p.1 < (k + 1) * (k + 1)) := by
 unfold caN rs
 rw [List.countP_map]
 refine List.countP_congr fun p hp => ?_
 simp only [Function.comp, decide_eq_true_eq]
 exact (h p hp).lo_le hk
theorem mu_le_ca {s : List (Int × Rdg)} (h : RtL s) (k : Int) : muN (rs s) k ≤ caN (rs s) k := by
 unfold muN caN rs
 rw [List.countP_map, List.countP_map]
 refine List.countP_mono_left fun p hp => ?_
 simp only [Function.comp, decide_eq_true_eq]
 have := (h p hp).lh; omega
/-- Nobody of a team is in the house. -/
theorem aw_iff {s : List (Int × Rdg)} (h : RtL s) : awB (rs s) = true ↔ ∀ p ∈ s, 16736095983108096 < p.1 := by
 unfold awB rs
 rw [Bool.not_eq_true', Bool.eq_false_iff, Ne, List.any_eq_true]
 constructor
 ·intro hn p hp
  rcases Int.lt_or_le 16736095983108096 p.1 with hc | hc
  ·exact hc
  ·exact absurd ⟨p.2, List.mem_map.2 ⟨p, hp, rfl⟩, by have := ((h p hp).hi_le (k := 129368064) (by omega)).2 (by omega); simpa using this⟩ hn
 ·rintro hn ⟨r, hr, hd⟩
  obtain ⟨p, hp, rfl⟩ := List.mem_map.1 hr
  have h1 := hn p hp
  have h2 := ((h p hp).hi_le (k := 129368064) (by omega)).1 (by simpa using hd)
  omega
/-- The nearest stone of a team, which is in the house. -/
theorem nr_eq {s : List (Int × Rdg)} (h : RtL s) {q : Int × Rdg} (hq : q ∈ s) (hR : q.1 ≤ 16736095983108096) (hm : ∀ p ∈ s, q.1 ≤ p.1) : nrL (rs s) = q.2.lo ∧ nrH (rs s) = q.2.hi := by
 have hqr : q.2 ∈ rs s := List.mem_map.2 ⟨q, hq, rfl⟩
 have hhi : q.2.hi ≤ 129368064 := ((h q hq).hi_le (by omega)).2 (by omega)
 have hlo : q.2.lo ≤ 129368064 := by have := (h q hq).lh; omega
 constructor
 ·obtain ⟨⟨a, b⟩, c⟩ := fold_min (fun r : Rdg => r.lo) (rs s) 129368065
  have e : nrL (rs s) = (rs s).foldl (fun a r => min a r.lo) 129368065 := rfl
  rw [← e] at a b c
  have := b _ hqr
  rcases c with c | ⟨r, hr, c⟩
  ·omega
  ·obtain ⟨p, hp, rfl⟩ := List.mem_map.1 hr
   have := ((h q hq).mono (h p hp) (hm p hp)).1
   omega
 ·obtain ⟨⟨a, b⟩, c⟩ := fold_min (fun r : Rdg => r.hi) (rs s) 129368064
  have e : nrH (rs s) = (rs s).foldl (fun a r => min a r.hi) 129368064 := rfl
  rw [← e] at a b c
  have := b _ hqr
  rcases c with c | ⟨r, hr, c⟩
  ·omega
  ·obtain ⟨p, hp, rfl⟩ := List.mem_map.1 hr
   have := ((h q hq).mono (h p hp) (hm p hp)).2
   omega
/-- The exact points are among those that may be. -/
theorem in_away {a b : List (Int × Rdg)} (ha : RtL a) (hb : RtL b) (hn : ∀ p ∈ b, 16736095983108096 < p.1) {n : Nat} (h1 : 1 ≤ n) (e : n = a.countP fun p => decide (p.1 ≤ 16736095983108096)) : scT (rs a) (rs b) n := by
 refine ⟨129368064, ?_, ?_⟩
 ·unfold limL
  rw [if_pos ((aw_iff hb).2 hn)]; simp
 ·have hm := mu_eq ha (k := 129368064) (by omega)
  have hm2 : muN (rs a) 129368064 = n := by rw [hm, e]; rfl
  have := mu_le_ca ha 129368064
  omega
theorem in_near {a b : List (Int × Rdg)} (ha : RtL a) (hb : RtL b) {q : Int × Rdg} (hq : q ∈ b) (hR : q.1 ≤ 16736095983108096) (hm : ∀ p ∈ b, q.1 ≤ p.1) {n : Nat} (h1 : 1 ≤ n) (e : n = a.countP fun p => decide (p.1 < q.1)) : scT (rs a) (rs b) n := by
 obtain ⟨eL, eH⟩ := nr_eq hb hq hR hm
 have hr := hb q hq
 obtain ⟨c, hc⟩ : ∃ c, q.2.lo = c := ⟨_, rfl⟩
 have hlh := hr.lh
 have hc0 := hr.l0
 have hmem : ∀ k, (k = c - 1 ∨ (∃ p ∈ a, (p.2.lo = k ∨ p.2.hi = k)) ∧ c ≤ k ∧ k ≤ q.2.hi - 1) → k ∈ limL (rs a) (rs b) := by
  intro k hk
  unfold limL
  rw [if_neg (show ¬ nrL (rs b) > nrH (rs b) by rw [eL, eH]; omega), eL, eH, List.mem_append, List.mem_cons]
  refine .inr ?_
  rcases hk with rfl | ⟨⟨p, hp, hv⟩, h2, h3⟩
  ·exact .inl (by omega)
  ·refine .inr (List.mem_filter.2 ⟨List.mem_flatMap.2 ⟨p.2, List.mem_map.2 ⟨p, hp, rfl⟩, ?_⟩, by simp; omega⟩)
   simp only [List.mem_cons, List.not_mem_nil, or_false]
   rcases hv with h | h <;> simp [h]
 rw [hc] at hlh hc0
 rcases hr.h2 with h2 | ⟨h2, h3⟩
 ·-- a whole number
  have hqc : q.1 = c * c := by have := hr.l1; have := hr.h1; rw [h2, hc] at this; rw [hc] at *; omega
  refine ⟨c - 1, hmem _ (.inl rfl), ?_⟩
  have h4 := ca_eq ha (k := c - 1) (by omega)
  have h5 : caN (rs a) (c - 1) = n := by rw [h4, e, hqc, show c - 1 + 1 = c by omega]
  have := mu_le_ca ha (c - 1)
  omega
 ·rw [hc] at h2 h3
  by_cases hex : ∃ p ∈ a, (p.2.lo = c ∨ p.2.hi = c)
  ·refine ⟨c, hmem _ (.inr ⟨hex, by omega, by omega⟩), ?_⟩
   have h4 := ca_eq ha (k := c) (by omega)
   have h5 := mu_eq ha (k := c) hc0
   have hl2 := hr.l2
   rw [hc] at hl2
   have h6 : muN (rs a) c ≤ n := by
    rw [h5, e]
    refine List.countP_mono_left fun p _ hp => ?_
    simp only [decide_eq_true_eq] at hp ⊢; omega
   have h7 : n ≤ caN (rs a) c := by
    rw [h4, e]
    refine List.countP_mono_left fun p _ hp => ?_
    simp only [decide_eq_true_eq] at hp ⊢; omega
   omega
  ·refine ⟨c - 1, hmem _ (.inl rfl), ?_⟩
   have hl2 := hr.l2
   rw [hc] at hl2
   have h5 : muN (rs a) (c - 1) = n := by
    unfold muN rs
    rw [List.countP_map, e]
    refine List.countP_congr fun p hp => ?_
    simp only [Function.comp, decide_eq_true_eq]
    have hne : p.2.lo ≠ c ∧ p.2.hi ≠ c := ⟨fun h => hex ⟨p, hp, .inl h⟩, fun h => hex ⟨p, hp, .inr h⟩⟩
    have hpr := ha p hp
    have hplh := hpr.lh
    constructor
    ·intro hh
     have := hpr.l0
     have := (hpr.hi_le (k := c - 1) (by omega)).1 hh
     have := sq_le2 (show 0 ≤ c - 1 by omega) (show c - 1 ≤ c by omega)
     omega
    ·intro hh
     have := (hpr.lo_le (k := c) (by omega)).2 (by omega)
     omega
   have := mu_le_ca ha (c - 1)
   omega
/-- Stones whose places are fit to be counted. -/
def Ply (l : List St) : Prop := ∀ i, i < l.length → Play (l.getD i ⟨0, 0, 0, 0⟩).x (l.getD i ⟨0, 0, 0, 0⟩).y
theorem hsA_iff {l : List St} (h : Ply l) {i : Nat} : i ∈ hsA l ↔ i < l.length ∧ sqAt l i ≤ 16736095983108096 := by
 unfold hsA hsN sqAt
 rw [List.mem_filter, List.mem_range, decide_eq_true_eq]
 constructor
 ·rintro ⟨a, b⟩; exact ⟨a, b.2⟩
 ·rintro ⟨a, b⟩; exact ⟨a, h i a, b⟩
/-- A team's squares and readings. -/
def sid (l : List St) (rd : Nat → Rdg) (t : Int) (k : Nat) : List (Int × Rdg) := ((List.range k).filter fun i => decide (teamAt l i = t)).map fun i => (sqAt l i, rd i)
def RtA (l : List St) (rd : Nat → Rdg) : Prop := ∀ i, i < l.length → Rt (sqAt l i) (rd i).lo (rd i).hi
theorem sid_mem {l : List St} {rd : Nat → Rdg} {t : Int} {k : Nat} {p : Int × Rdg} : p ∈ sid l rd t k ↔ ∃ i, i < k ∧ teamAt l i = t ∧ p = (sqAt l i, rd i) := by
 unfold sid
 rw [List.mem_map]
 constructor
 ·rintro ⟨i, hi, rfl⟩
  rw [List.mem_filter, List.mem_range, decide_eq_true_eq] at hi
  exact ⟨i, hi.1, hi.2, rfl⟩
 ·rintro ⟨i, h1, h2, rfl⟩
  exact ⟨i, by rw [List.mem_filter, List.mem_range, decide_eq_true_eq]; exact ⟨h1, h2⟩, rfl⟩
theorem sid_rt {l : List St} {rd : Nat → Rdg} (h : RtA l rd) (t : Int) : RtL (sid l rd t l.length) := by
 intro p hp
 obtain ⟨i, hi, -, rfl⟩ := sid_mem.1 hp
 exact h i hi
theorem sid_cnt {l : List St} (hp : Ply l) (rd : Nat → Rdg) (t : Int) (lim : Option Int) (f : Int → Bool) (hf : ∀ i, i < l.length → (f (sqAt l i) = true ↔ sqAt l i ≤ 16736095983108096 ∧ (lim = none ∨ sqAt l i < lim.getD 0))) : cK l t lim l.length = (sid l rd t l.length).countP fun p => f p.1 := by
 rw [cK_filter, ← List.countP_eq_length_filter]
 unfold sid
 rw [List.countP_map, List.countP_filter]
 refine List.countP_congr fun i hi => ?_
 have hi2 := List.mem_range.1 hi
 have h1 := hf i hi2
 have h2 := hsA_iff hp (i := i)
 simp only [Function.comp, Bool.and_eq_true, decide_eq_true_eq]
 rw [h1, h2]
 constructor
 ·rintro ⟨a, b, c⟩; exact ⟨⟨a.2, c⟩, b⟩
 ·rintro ⟨⟨a, c⟩, b⟩; exact ⟨⟨hi2, a⟩, b, c⟩
/-- Nobody of a team in the house; or its nearest stone. -/
theorem best_two {l : List St} (hp : Ply l) (rd : Nat → Rdg) (t : Int) : (bT l t l.length = none ∧ ∀ p ∈ sid l rd t l.length, 16736095983108096 < p.1) ∨ ∃ q ∈ sid l rd t l.length, bT l t l.length = some q.1 ∧ q.1 ≤ 16736095983108096 ∧ ∀ p ∈ sid l rd t l.length, q.1 ≤ p.1 := by
 rcases bT_spec l t l.length with ⟨h1, h2⟩ | ⟨m, h1, ⟨i, hi, h3, h4, h5⟩, h6⟩
 ·refine .inl ⟨h1, fun p hm => ?_⟩
  obtain ⟨i, hi, ht, rfl⟩ := sid_mem.1 hm
  rcases Int.lt_or_le 16736095983108096 (sqAt l i) with h | h
  ·exact h
  ·exact absurd ht (h2 i hi ((hsA_iff hp).2 ⟨hi, h⟩))
 ·refine .inr ⟨(sqAt l i, rd i), sid_mem.2 ⟨i, hi, h4, rfl⟩, by rw [h1, h5], ((hsA_iff hp).1 h3).2, fun p hm => ?_⟩
  obtain ⟨k, hk, ht, rfl⟩ := sid_mem.1 hm
  show sqAt l i ≤ sqAt l k
  rcases Int.lt_or_le 16736095983108096 (sqAt l k) with h | h
  ·have := ((hsA_iff hp).1 h3).2; omega
  ·have := h6 k hk ((hsA_iff hp).2 ⟨hk, h⟩) ht; omega
theorem aw_blank {a b : List Rdg} (ha : awB a = true) (hb : awB b = true) : scP a b (-1) 0 := .inl ⟨rfl, rfl, by unfold blB; rw [ha, hb]; rfl⟩
theorem cnt_pos {s : List (Int × Rdg)} {f : Int → Bool} {q : Int × Rdg} (hq : q ∈ s) (h : f q.1 = true) : 1 ≤ s.countP fun p => f p.1 := List.countP_pos_iff.2 ⟨q, hq, h⟩
/-- The exact count is one of the scores that may be. -/
theorem count_in {l : List St} (hp : Ply l) {rd : Nat → Rdg} (hr : RtA l rd) : scP (rs (sid l rd 0 l.length)) (rs (sid l rd 1 l.length)) (refT l).1 (refT l).2 := by
 have hA := sid_rt hr 0
 have hB := sid_rt hr 1
 have hall : ∀ t, cK l t none l.length = (sid l rd t l.length).countP fun p => decide (p.1 ≤ 16736095983108096) := fun t => sid_cnt hp rd t none (fun d => decide (d ≤ 16736095983108096)) (fun i _ => by simp)
 have hlt : ∀ t m, m ≤ 16736095983108096 → cK l t (some m) l.length = (sid l rd t l.length).countP fun p => decide (p.1 < m) := fun t m hm => sid_cnt hp rd t (some m) (fun d => decide (d < m)) (fun i _ => by simp; omega)
 unfold refT
 rcases best_two hp rd 0 with ⟨e0, n0⟩ | ⟨a, ha, e0, ra, ma⟩ <;> rcases best_two hp rd 1 with ⟨e1, n1⟩ | ⟨b, hb, e1, rb, mb⟩ <;> rw [e0, e1]
 ·exact aw_blank ((aw_iff hA).2 n0) ((aw_iff hB).2 n1)
 ·exact .inr (.inr ⟨rfl, in_away hB hA n0 (by rw [hall]; exact cnt_pos (f := fun d => decide (d ≤ 16736095983108096)) hb (by simpa using rb)) (hall 1)⟩)
 ·exact .inr (.inl ⟨rfl, in_away hA hB n1 (by rw [hall]; exact cnt_pos (f := fun d => decide (d ≤ 16736095983108096)) ha (by simpa using ra)) (hall 0)⟩)
 ·show scP _ _ (ite _ _ _ : Int × Int).1 (ite _ _ _ : Int × Int).2
  by_cases h : a.1 = b.1
  ·rw [if_pos h]
   refine .inl ⟨rfl, rfl, ?_⟩
   obtain ⟨x1, x2⟩ := nr_eq hA ha ra ma
   obtain ⟨y1, y2⟩ := nr_eq hB hb rb mb
   have hh := hA a ha
   have hh2 := hB b hb
   rw [← h] at hh2
   obtain ⟨u1, u2⟩ := hh.uniq hh2
   have := hh.lh
   unfold blB
   rw [x1, x2, y1, y2, Bool.or_eq_true]
   exact .inr (by rw [decide_eq_true_eq]; omega)
  ·rw [if_neg h]
   by_cases h2 : b.1 < a.1
   ·rw [if_pos h2]
    exact .inr (.inr ⟨rfl, in_near hB hA ha ra ma (by rw [hlt 1 a.1 ra]; exact cnt_pos (f := fun d => decide (d < a.1)) hb (by simpa using h2)) (hlt 1 a.1 ra)⟩)
   ·rw [if_neg h2]
    exact .inr (.inl ⟨rfl, in_near hA hB hb rb mb (by rw [hlt 0 b.1 rb]; exact cnt_pos (f := fun d => decide (d < b.1)) ha (by simp; omega)) (hlt 0 b.1 rb)⟩)
/-- Of two stones, the nearer one first: it is not told to be farther. -/
def nrr (a b : Rdg) : Int := if a.hi < b.lo then -1 else if b.hi < a.lo then 1 else 0
def hou (a : Rdg) : Int := if a.hi ≤ 129368064 then 1 else if a.lo > 129368064 then -1 else 0
theorem near_le {l : List St} (hp : Ply l) {rd : Nat → Rdg} (hr : RtA l rd) {d : List Nat} (hd : NrP l d) {k : Nat} (hk : k + 1 < d.length) : nrr (rd (d[k]'(by omega))) (rd (d[k + 1]'hk)) ≤ 0 ∧ 0 ≤ hou (rd (d[k + 1]'hk)) := by
 have h1 := List.pairwise_iff_getElem.1 hd.2 k (k + 1) (by omega) hk (by omega)
 have m0 := (hsA_iff hp).1 (hd.1.mem_iff.1 (List.getElem_mem (show k < d.length by omega)))
 have m1 := (hsA_iff hp).1 (hd.1.mem_iff.1 (List.getElem_mem hk))
 have r0 := hr _ m0.1
 have r1 := hr _ m1.1
 have hmo := r0.mono r1 (by unfold lx at h1; omega)
 have l0 := r0.lh
 have l1 := r1.lh
 have h2 := (r1.hi_le (k := 129368064) (by omega)).2 (by omega)
 unfold nrr hou
 constructor
 ·split
  ·omega
  ·split <;> omega
 ·rw [if_pos h2]; omega
/-! Layer 6: stones that are measured. -/
def okM (s : St) : Prop := OkS s.x s.y ∧ (0 ≤ s.t ∧ s.t ≤ 1) ∧ 0 ≤ s.n ∧ s.n ≤ 7
instance (s : St) : Decidable (okM s) := by unfold okM OkS; infer_instance
/-- Stones can be measured, with names that no earlier one has. -/
def goodM : List St → List St → Bool
 | _, [] => true
 | pre, s :: r => decide (okM s) && pre.all (fun a => !nameB a s) && goodM (pre ++ [s]) r
def mkB (l : List St) : Bool := decide (l.length ≤ 16) && goodM [] l
theorem goodM_step {l : List St} {k : Nat} (hk : k < l.length) : goodM (l.take k) (l.drop k) = (decide (okM (l[k]'hk)) && (l.take k).all (fun a => !nameB a (l[k]'hk)) && goodM (l.take (k + 1)) (l.drop (k + 1))) := by
 rw [List.drop_eq_getElem_cons hk, List.take_succ_eq_append_getElem hk]; rfl
theorem goodM_s {l : List St} {k : Nat} {x : St} (hk : k < l.length) (hx : l[k]'hk = x) (h : goodM [] l = goodM (l.take k) (l.drop k)) (h1 : okM x) (h2 : (x.t, x.n) ∉ namesR (l.take k)) : goodM [] l = goodM (l.take (k + 1)) (l.drop (k + 1)) := by
 rw [h, goodM_step hk, hx, names_all]; simp [h1, h2]
theorem mk_n {l : List St} {k : Nat} {x : St} (hk : k < l.length) (hx : l[k]'hk = x) (h : goodM [] l = goodM (l.take k) (l.drop k)) (h2 : ¬ (okM x ∧ (x.t, x.n) ∉ namesR (l.take k))) : mkB l = false := by
 unfold mkB
 rw [h, goodM_step hk, hx, names_all]
 by_cases h1 : okM x
 ·have h3 : (x.t, x.n) ∈ namesR (l.take k) := Decidable.not_not.1 (fun h3 => h2 ⟨h1, h3⟩)
  simp [h3]
 ·simp [h1]
theorem mk_big {l : List St} (h : ¬ l.length ≤ 16) : mkB l = false := by unfold mkB; rw [decide_eq_false h]; rfl
theorem mk_e {l : List St} (h16 : l.length ≤ 16) (h : goodM [] l = goodM (l.take l.length) (l.drop l.length)) : mkB l = true := by
 unfold mkB
 rw [h, decide_eq_true h16, List.drop_length]; rfl
theorem goodM_all {l : List St} : ∀ {k : Nat}, k ≤ l.length → goodM (l.take k) (l.drop k) = true → ∀ j (h : j < l.length), k ≤ j → okM (l[j]'h) := by
 intro k hk
 induction hn : l.length - k generalizing k with
 | zero => intro _ j h1 h2; omega
 | succ n ih =>
  intro hg j h1 h2
  rw [goodM_step (by omega), Bool.and_eq_true, Bool.and_eq_true] at hg
  by_cases e : j = k
  ·subst e; exact of_decide_eq_true hg.1.1
  ·exact ih (k := k + 1) (by omega) (by omega) hg.2 j h1 (by omega)
theorem mk_facts {l : List St} (h : mkB l = true) : l.length ≤ 16 ∧ ∀ s ∈ l, okM s := by
 unfold mkB at h
 rw [Bool.and_eq_true] at h
 refine ⟨of_decide_eq_true h.1, fun s hs => ?_⟩
 obtain ⟨j, hj, rfl⟩ := List.getElem_of_mem hs
 exact goodM_all (k := 0) (Nat.zero_le _) (by simpa using h.2) j hj (Nat.zero_le _)
theorem goodM_of : ∀ (r pre : List St), goodF pre r = true → goodM pre r = true
 | [], _, _ => rfl
 | s :: r, pre, h => by
  have h' : (decide (okSt s) && pre.all (fun a => !nameB a s) && goodF (pre ++ [s]) r) = true := h
  rw [Bool.and_eq_true, Bool.and_eq_true] at h'
  show (decide (okM s) && pre.all (fun a => !nameB a s) && goodM (pre ++ [s]) r) = true
  have h1 := of_decide_eq_true h'.1.1
  rw [decide_eq_true (show okM s from ⟨h1.2.1, h1.1⟩), h'.1.2, goodM_of r _ h'.2]; rfl
/-- What is valid for layer 2 can be measured. -/
theorem mk_of {l : List St} (h : chkB l = true) : mkB l = true := by
 unfold chkB at h
 rw [Bool.and_eq_true, Bool.and_eq_true] at h
 unfold mkB
 rw [h.1.1, goodM_of _ _ h.1.2]; rfl
/-! Bounds. -/
def rtB (r : Rdg) (n : Int) : Bool := decide (0 ≤ r.i ∧ r.i ≤ n - 1) && decide (0 ≤ r.lo ∧ r.lo ≤ r.hi) && decide (r.hi ≤ 70368744177664)
def Rdg.d : Rdg := ⟨0, 0, 0⟩
def bnd0 (n : Nat) : List Rdg := (List.range n).map fun i => ⟨(i : Nat), 0, 70368744177664⟩
def bndS (L : List Rdg) (r : Rdg) : List Rdg := L.set r.i.toNat ⟨(L.getD r.i.toNat Rdg.d).i, max (L.getD r.i.toNat Rdg.d).lo r.lo, min (L.getD r.i.toNat Rdg.d).hi r.hi⟩
def bndL (n : Nat) (rs : List Rdg) : List Rdg := rs.foldl bndS (bnd0 n)
/-- Why there are no bounds. -/
def bndE (n : Nat) (rs : List Rdg) : Int := if 256 < rs.length then 3 else if ¬ n ≤ 16 ∨ rs.any (fun r => !rtB r (n : Nat)) = true then 2 else if (bndL n rs).any (fun r => decide (r.hi < r.lo)) = true then 7 else 0
theorem bnd0_len (n : Nat) : (bnd0 n).length = n := by simp [bnd0]
theorem bndS_len (L : List Rdg) (r : Rdg) : (bndS L r).length = L.length := by simp [bndS]
theorem bndF_len : ∀ (rs L : List Rdg), (rs.foldl bndS L).length = L.length
 | [], _ => rfl
 | r :: rs, L => by rw [List.foldl_cons, bndF_len rs, bndS_len]
theorem bndL_len (n : Nat) (rs : List Rdg) : (bndL n rs).length = n := by unfold bndL; rw [bndF_len, bnd0_len]
theorem bndL_s {n : Nat} {rs : List Rdg} {k : Nat} {r : Rdg} (hk : k < rs.length) (hr : rs[k]'hk = r) : bndL n (rs.take (k + 1)) = bndS (bndL n (rs.take k)) r := by
 unfold bndL
 rw [List.take_succ_eq_append_getElem hk, List.foldl_append, hr]; rfl
/-- Readings that stand in order, one for each stone, are the bounds. -/
theorem bnd_own {rs : List Rdg} (hi : ∀ k (h : k < rs.length), (rs[k]'h).i = ((k : Nat) : Int)) (hb : ∀ r ∈ rs, 0 ≤ r.lo ∧ r.hi ≤ 70368744177664) : bndL rs.length rs = rs := by
 have H : ∀ k, k ≤ rs.length → bndL rs.length (rs.take k) = rs.take k ++ (bnd0 rs.length).drop k := by
  intro k
  induction k with
  | zero => intro _; rfl
  | succ k ih =>
   intro hk
   have hk' : k < rs.length := hk
   obtain ⟨r, hr⟩ : ∃ r, rs[k]'hk' = r := ⟨_, rfl⟩
   have h2 := hi k hk'
   have h3 := hb r (by rw [← hr]; exact List.getElem_mem _)
   rw [hr] at h2
   rw [bndL_s hk' hr, ih (by omega)]
   unfold bndS
   have hkb : k < (bnd0 rs.length).length := by rw [bnd0_len]; exact hk'
   have htl : (rs.take k).length = k := by rw [List.length_take]; omega
   have hb0 : (bnd0 rs.length)[k]'hkb = ⟨((k : Nat) : Int), 0, 70368744177664⟩ := by simp [bnd0]
   rw [h2, Int.toNat_natCast, List.drop_eq_getElem_cons hkb, hb0]
   have hg : (rs.take k ++ (⟨((k : Nat) : Int), 0, 70368744177664⟩ : Rdg) :: (bnd0 rs.length).drop (k + 1)).getD k Rdg.d = ⟨((k : Nat) : Int), 0, 70368744177664⟩ := by
    rw [List.getD_eq_getElem?_getD, List.getElem?_append_right (by omega), htl, Nat.sub_self]; rfl
   rw [hg, List.set_append_right _ _ (by omega), htl, Nat.sub_self, List.set_cons_zero, List.take_succ_eq_append_getElem hk', List.append_assoc, hr]
   congr 1
   show _ :: _ = [r] ++ _
   rw [List.singleton_append]
   congr 1
   obtain ⟨ri, rl, rh⟩ := r
   dsimp only at h2 h3 ⊢
   rw [h2, show max 0 rl = rl by omega, show min 70368744177664 rh = rh by omega]
 have := H rs.length (Nat.le_refl _)
 rw [List.take_length, List.drop_eq_nil_of_le (by rw [bnd0_len]; exact Nat.le_refl _), List.append_nil] at this
 exact this
/-- A team's bounds. -/
def sdL (l : List St) (L : List Rdg) (t : Int) (k : Nat) : List Rdg := ((List.range k).filter fun i => decide (teamAt l i = t)).map fun i => L.getD i Rdg.d
theorem sdL_s {l : List St} {L : List Rdg} {t : Int} {k : Nat} {b : Rdg} (hk : k < L.length) (hb : L[k]'hk = b) : sdL l L t (k + 1) = if teamAt l k = t then sdL l L t k ++ [b] else sdL l L t k := by
 unfold sdL
 rw [List.range_succ, List.filter_append]
 have hg : L.getD k Rdg.d = b := by rw [List.getD_eq_getElem?_getD, List.getElem?_eq_getElem hk, hb]; rfl
 by_cases h : teamAt l k = t
 ·rw [if_pos h, List.filter_cons_of_pos (by simpa using h), List.filter_nil, List.map_append, List.map_cons, List.map_nil, hg]
 ·rw [if_neg h, List.filter_cons_of_neg (by simpa using h), List.filter_nil, List.append_nil]
theorem sdL_len (l : List St) (L : List Rdg) (t : Int) (k : Nat) : (sdL l L t k).length ≤ k := by
 unfold sdL
 rw [List.length_map]
 exact Nat.le_trans (List.length_filter_le _ _) (by rw [List.length_range]; exact Nat.le_refl _)
theorem sid_sd (l : List St) (L : List Rdg) (t : Int) (k : Nat) : rs (sid l (fun i => L.getD i Rdg.d) t k) = sdL l L t k := by
 unfold rs sid sdL
 rw [List.map_map]; rfl
/-! The score, if it is sure. -/
end Go.Proofs.YtmcpnoailbmkkaaGreat
/- Views. Over any program. -/
namespace Go.Proofs.YtmcpnoailbmkkaaGreat
open Go Go.RowKit Go.Proofs Go.Shelf
end Go.Proofs.YtmcpnoailbmkkaaGreat
/- An entry of a map's literal; strings as keys. Over any program. -/
namespace Go.Proofs.YtmcpnoailbmkkaaGreat
open Go Go.RowKit Go.Proofs Go.Shelf Go.ChangeMaps
section
variable {P : Program} {α β : Type} {kt e t : TypeId} {kv : α → Value} {ok : α → Prop} {ev : β → Value} {ed : β → DataW Unit} {z : β} {okE : β → Prop}
variable {n : Nat} {B : Bs} {Q : Exit → Act → World → Prop} {l : Sl} {H H' : List It} {ops : Array Oper} {rest : List Oper} {o : Oper} {x y q : Operand}
end
end Go.Proofs.YtmcpnoailbmkkaaGreat
/- Items as one view; one item out of a group. Over any program. -/
namespace Go.Proofs.YtmcpnoailbmkkaaGreat
open Go Go.RowKit Go.Proofs Go.Shelf
theorem Pk.skip (C : It) {l H : List It} (h : Pk l H) : Pk l (C :: H) := by
 induction h with
 | nil H => exact .nil _
 | pick r _ ih => exact .pick (.there C r) ih
section
variable {P : Program} {n : Nat} {B : Bs} {Q : Exit → Act → World → Prop} {l : Sl} {H H1 H2 HA HS rows : List It} {ops : Array Oper} {rest : List Oper} {c : Code} {w : World}
end
end Go.Proofs.YtmcpnoailbmkkaaGreat
/- Operations on bytes; a fact in a drawn region. Over any program. -/
namespace Go.Proofs.YtmcpnoailbmkkaaGreat
open Go Go.RowKit Go.Proofs Go.Shelf
section
variable {P : Program} {n : Nat} {l : Sl} {o : Oper} {x y : Operand} {t ty : TypeId}
end
end Go.Proofs.YtmcpnoailbmkkaaGreat
/- Differences and negatives that may wrap. Over any program. -/
namespace Go.Proofs.YtmcpnoailbmkkaaGreat
open Go Go.RowKit Go.Proofs Go.Shelf
section
variable {P : Program} {n : Nat} {l : Sl} {o : Oper} {x y : Operand} {t ty : TypeId}
end
end Go.Proofs.YtmcpnoailbmkkaaGreat
/- In a region with a call of yield: what comes behind it goes as in a plain region. Over any program. -/
namespace Go.Proofs.YtmcpnoailbmkkaaGreat
open Go Go.RowKit Go.Proofs Go.Shelf
section
variable {P : Program} {n : Nat} {B : Bs} {Q : Exit → Act → World → Prop} {l : Sl} {H : List It} {ops : Array Oper} {rest : List Oper}
end
end Go.Proofs.YtmcpnoailbmkkaaGreat
/- A drawn region with a call of yield. Over any program. -/
namespace Go.Proofs.YtmcpnoailbmkkaaGreat
open Go Go.RowKit Go.Proofs Go.Shelf
section
variable {P : Program} {n : Nat} {B : Bs} {Q : Exit → Act → World → Prop} {l : Sl} {H H' : List It} {c : Code} {w w' : World}
end
section
variable {P : Program} {n : Nat} {B : Bs} {l : Sl} {H : List It}
end
section
variable {P : Program} {n : Nat} {B : Bs} {Q : Exit → Act → World → Prop} {l : Sl} {H : List It} {ops : Array Oper} {o : Oper} {fuel : Nat} {listed : Array Bool}
end
end Go.Proofs.YtmcpnoailbmkkaaGreat
