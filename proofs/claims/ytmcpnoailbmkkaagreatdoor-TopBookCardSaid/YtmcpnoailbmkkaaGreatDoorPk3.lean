/- Layers of the proofs, joined: G12 Rj Rk Rl Rm Rn Ro Rp Sh G13 G14 Rq Rr Rs Rt Ru Rv G15 G16 G17 G18 G19 G20 Wa Wb Trim Wc. -/
import Derived.Test.YtmcpnoailbmkkaaGreatDoorPk2
import Derived.Lib.UnsafeStr
import Derived.Lib.AppendStr
import Derived.Lib.MakeNoZero
import Derived.Laws.IdiomCopy
import Derived.Lib.SliceRun
import Derived.Shelf.SlSortCmp.WholeK
import Derived.Ground.SlsfProg
import Derived.Shelf.SlGeneric
import Derived.Test.YtmcpnoailbmkkaaGreatDoorProg
import Derived.ProofKit
import Derived.OpenShut
import Derived.Deep.Slices
import Derived.Deep.Strs
import Derived.ChangeSame
import Derived.ChangeMaps5
import Derived.Shelf.Strings.SlTrimAscii
/- The walk by live slots: two items as one; rows of bytes: strings.Builder's operations. Over any program. -/
namespace Go.Proofs.YtmcpnoailbmkkaaGreatDoor
open Go Go.RowKit Go.Proofs
theorem JL_unite {P : Program} {n : Nat} {B : Bs} {Q : Exit → Act → World → Prop} {ops : Array Oper} {rest : List Oper} {l : Sl} {H H2 H1 : List It} (A C : It) (h : JL P n B ops Q rest l (unI C A :: H1)) (r1 : Rm A H H2 := by repeat constructor) (r2 : Rm C H2 H1 := by repeat constructor) (hA : A.ro = false := by rfl) (hC : C.ro = false := by rfl) : JL P n B ops Q rest l H := fun a w ha hw => h a w ha (((Rm.there A r2).pk (r1.pk hw)).unite hC hA)
section
variable {P : Program} {n : Nat} {B : Bs} {l : Sl} {H H' : List It} {o : Oper}
theorem OpW.of_val0 {m : Option It} {T : Type} {φ : T → Prop} {G : T → List It} (hd : o.dst = none) (h : ∀ a w, Fr n l a → Wd B H w → ∃ t w' v, φ t ∧ (execOp a.eval o).run P w = .ok (.value v) w' ∧ Wd B (G t) w' ∧ Rl m w w') : OpW P n B m l H o φ (fun _ => l) G := fun a w K Q ha hw k => by
 obtain ⟨t, w', v, h1, h2, h3, h4⟩ := h a w ha hw
 unfold Oper.wp
 rw [h2]
 show K (a.put o.dst v) w'
 exact k t _ _ h1 (ha.putN o hd _) h3 h4
/-- A store into an element of a row of our own. -/
theorem oStE {α : Type} {k : Nat} {enc : α → List Value} (E : Enc k enc) {t ty : TypeId} {x y : Operand} {b j i m c kk : Nat} {L : List α} {v : Value} (cs : List Value) (r : α) [z : Siz P t kk] (hj : j < L.length) (ho : o.op = .store t x y := by rfl) (hd : o.dst = none := by rfl) (hx : evl l x = some (.pointer (some ⟨b, 0 + j * k + i, none⟩)) := by rfl) (hy : evl l y = some v := by rfl) (hcs : v.cells = cs.toArray := by rfl) (hkk : cs.length = kk := by rfl) (h1 : cs.all (·.oneCell') = true := by rfl)
  (hat : At (ownB ty k (some ⟨b, 0, none⟩) m c (L.flatMap enc)) (ownB ty k (some ⟨b, 0, none⟩) m c ((L.set j r).flatMap enc)) H H' := by repeat constructor) (hi : i + cs.length ≤ k := by decide) (hr : enc r = (enc (L[j]'hj)).take i ++ cs ++ (enc (L[j]'hj)).drop (i + cs.length) := by rfl) :
  OpW P n B (some (ownB ty k (some ⟨b, 0, none⟩) m c (L.flatMap enc))) l H o (fun _ : Unit => True) (fun _ => l) (fun _ => H') := ow_storeE E r ho hd hx hy hcs (by rw [hkk]; exact z.h) h1 hat hj hi hr
theorem zero_cells {z : Value} {zs : List Value} (hz : z.cells = zs.toArray) (h0 : 0 < zs.length) (h1 : zs.all (·.oneCell') = true) (m : Nat) : (Builtin.zeroCells z.cells m).toList.length = m * zs.length ∧ ∀ u ∈ (Builtin.zeroCells z.cells m).toList, u.oneCell' = true := by
 rw [hz]
 refine ⟨by simp [Builtin.zeroCells], fun u hu => ?_⟩
 simp only [Builtin.zeroCells, Array.toList_map, Array.toList_range, List.mem_map, List.mem_range, List.size_toArray] at hu
 obtain ⟨i, -, rfl⟩ := hu
 have hlt : i % zs.length < zs.length := Nat.mod_lt _ h0
 have e : zs.toArray[i % zs.length]! = zs[i % zs.length]'hlt := by rw [getElem!_pos zs.toArray _ (by simpa using hlt)]; simp
 rw [e]
 exact List.all_eq_true.1 h1 _ (List.getElem_mem _)
/-- Truth values compared. -/
theorem pEqlB {t ty : TypeId} {x y : Operand} {a b : Bool} [u : Und P t .bool] (ho : o.op = .binOp .eql t x y ty) (hx : evl l x = some (.bool a)) (hy : evl l y = some (.bool b)) : RP P n l o (.bool (decide (a = b))) := rp2 hx hy (fun ρ h1 h2 w => by
 have e : decide (a = b) = (a == b) := by cases a <;> cases b <;> rfl
 rw [e]
 unfold execOp
 simp only [ho, h1, h2]
 have hu := u.h
 go_simp)
/-- A slice held against nil. -/
theorem pSlNil {t e ty : TypeId} {x : Operand} {A : Option Addr} {m c : Nat} [u : Und P t (.slice e)] (ho : o.op = .binOp .eql t x (.const (.slice none 0 0)) ty) (hx : evl l x = some (.slice A m c)) : RP P n l o (.bool A.isNone) := rp2 hx (y := .const (.slice none 0 0)) rfl (fun ρ h1 h2 w => by
 have hr := Lib.run_eql_slice_nil (P := P) w t e A m c 0 0 u.h
 unfold execOp
 simp [ho, h1, h2, eqGuard, hr])
/-- clear(s[i:]) of a row of our own, of which i elements are looked at from now on. -/
theorem oClr {α : Type} {k : Nat} {enc : α → List Value} (E : Enc k enc) {t e : TypeId} {x : Operand} {g c i m : Nat} (L : List α) {z : Value} (zs : List Value) [u : Und P t (.slice e)] [zr : Zer P e z] (hm0 : m = L.length) (hi : i ≤ L.length) (ho : o.op = .call { callee := .builtin .clear, args := #[x], argTypes := #[t] } := by rfl) (hd : o.dst = none := by rfl)
  (hx : evl l x = some (.slice (if c = i then some ⟨g, 0, none⟩ else (some ⟨g, 0, none⟩ : Option Addr).map (·.add (i * k))) (m - i) (c - i)) := by rfl) (hz : z.cells = zs.toArray := by rfl) (hzk : zs.length = k := by rfl) (hk : 0 < k := by decide) (h1 : zs.all (·.oneCell') = true := by rfl)
  (hat : At (ownB e k (some ⟨g, 0, none⟩) m c (L.flatMap enc)) (ownB e k (some ⟨g, 0, none⟩) i c ((L.take i).flatMap enc)) H H' := by repeat constructor) :
  OpW P n B (some (ownB e k (some ⟨g, 0, none⟩) m c (L.flatMap enc))) l H o (fun _ : Unit => True) (fun _ => l) (fun _ => H') := by
 subst hm0
 exact
 OpW.of_val0 hd (fun a w ha hw => by
  have hown : w.ownsRow 0 e k (.slice (some ⟨g, 0, none⟩) L.length c) L.length (L.flatMap enc) := (hw.ok _ hat.mem).1
  obtain ⟨q1, q2⟩ := hown
  rcases q2 with ⟨e0, -⟩ | ⟨g', cap, cur, e0, q3, q4, q5, q6, q7, q8⟩
  ·cases e0
  injection e0 with e1 e2 e3
  injection e1 with e1
  injection e1 with e1 _ _
  subst e1 e3
  have hlen := flat_len E L
  have hic : i * k ≤ L.length * k := Nat.mul_le_mul_right k hi
  have hnc : L.length * k ≤ c * k := Nat.mul_le_mul_right k q5
  have htk : ∀ cur' : Array Value, cur'.size = cur.size → (∀ q, q < i * k → cur'[q]? = cur[q]?) → cur'.toList.take (i * k) = (L.take i).flatMap enc := by
   intro cur' hs hc
   refine List.ext_getElem? (fun q => ?_)
   have hl2 := flat_len E (L.take i)
   rw [List.length_take, Nat.min_eq_left hi] at hl2
   rw [List.getElem?_take]
   by_cases hq : q < i * k
   ·rw [if_pos hq, Array.getElem?_toList, hc q hq]
    have h2 : (L.flatMap enc)[q]? = cur[q]? := by rw [← q8, List.getElem?_take, if_pos (by omega), Array.getElem?_toList]
    rw [← h2]
    conv => lhs; rw [← List.take_append_drop i L, List.flatMap_append]
    rw [List.getElem?_append_left (by omega)]
   ·rw [if_neg hq, List.getElem?_eq_none (by omega)]
  have hinv : ∀ W, (execOp a.eval o).run P W = ((Builtin.clear_ #[t] o.type #[.slice (if c = i then some ⟨g, 0, none⟩ else (some ⟨g, 0, none⟩ : Option Addr).map (·.add (i * k))) (L.length - i) (c - i)]).run P W).andThen fun v w' => .ok (.value v) w' := fun W => by
   unfold execOp
   simp only [ho, resolve, invoke, builtin, Sem.run_bind, Sem.run_pure, Result.andThen_ok, List.map_toArray, List.map_cons, List.map_nil, ha.ev hx]
  by_cases h0 : L.length - i = 0
  ·have hr : (Builtin.clear_ #[t] o.type #[.slice (if c = i then some ⟨g, 0, none⟩ else (some ⟨g, 0, none⟩ : Option Addr).map (·.add (i * k))) (L.length - i) (c - i)]).run P w = .ok (.tuple #[]) w := by
    rw [h0]
    generalize (if c = i then some ⟨g, 0, none⟩ else (some ⟨g, 0, none⟩ : Option Addr).map (·.add (i * k))) = Y
    cases Y <;> simp [Builtin.clear_, run_underlying u.h]
   refine ⟨(), w, .tuple #[], trivial, by rw [hinv, hr]; rfl, hw.turn hat (fun h => h) ⟨?_, .inr ⟨g, c, cur, rfl, Nat.zero_le _, q4, by omega, q6, q7, htk cur rfl (fun _ _ => rfl)⟩⟩ (fun b hb => hb), ⟨rfl, rfl, rfl, Nat.le_refl _, fun _ _ _ => rfl⟩⟩
   rw [flat_len E, List.length_take, Nat.min_eq_left hi]
  ·have hci : ¬ c = i := by omega
   obtain ⟨z1, z2⟩ := zero_cells hz (by omega) h1 (L.length - i)
   rw [hzk] at z1
   have hmul : i * k + (L.length - i) * k = L.length * k := by rw [← Nat.add_mul]; congr 1; omega
   have hst := run_storeCells_at (P := P) g (i * k) e (Builtin.zeroCells z.cells (L.length - i)).toList 0 cur w q4 (by rw [q7]; omega) z2
   rw [Nat.add_zero] at hst
   obtain ⟨m, hm⟩ : ∃ m, L.length - i = m + 1 := ⟨L.length - i - 1, by omega⟩
   have hr : (Builtin.clear_ #[t] o.type #[.slice (if c = i then some ⟨g, 0, none⟩ else (some ⟨g, 0, none⟩ : Option Addr).map (·.add (i * k))) (L.length - i) (c - i)]).run P w = .ok (.tuple #[]) (w.setRow g (cur.toList.take (i * k) ++ (Builtin.zeroCells z.cells (L.length - i)).toList ++ cur.toList.drop (i * k + (Builtin.zeroCells z.cells (L.length - i)).toList.length)).toArray) := by
    rw [if_neg hci]
    show (Builtin.clear_ #[t] o.type #[.slice (some (Addr.add _ _)) (L.length - i) (c - i)]).run P w = _
    rw [Addr.add_mid, Nat.zero_add, hm]
    rw [hm] at hst
    simp [Builtin.clear_, run_underlying u.h, zr.h, hst]
   have hch : Chg (ownB e k (some ⟨g, 0, none⟩) L.length c (L.flatMap enc)) w (w.setRow g (cur.toList.take (i * k) ++ (Builtin.zeroCells z.cells (L.length - i)).toList ++ cur.toList.drop (i * k + (Builtin.zeroCells z.cells (L.length - i)).toList.length)).toArray) := ⟨rfl, rfl, rfl, by simp [World.setRow], fun k _ hk => setRow_other w g k _ (fun e => hk (by subst e; rfl))⟩
   refine ⟨(), _, .tuple #[], trivial, by rw [hinv, hr]; rfl, hw.chg hat rfl rfl hch ⟨?_, .inr ⟨g, c, _, rfl, Nat.zero_le _, setRow_heap w g _ _ e _ q4, by omega, q6, ?_, htk _ ?_ ?_⟩⟩ (fun b hb => ⟨.inl hb, ?_⟩), hch⟩
   ·rw [flat_len E, List.length_take, Nat.min_eq_left hi]
   ·simp only [List.size_toArray, List.length_append, List.length_take, List.length_drop, z1, Array.length_toList]; omega
   ·simp only [List.size_toArray, List.length_append, List.length_take, List.length_drop, z1, Array.length_toList]; omega
   ·intro q hq
    rw [List.getElem?_toArray, List.append_assoc, List.getElem?_append_left (by rw [List.length_take, Array.length_toList]; omega), List.getElem?_take, if_pos hq, Array.getElem?_toList]
   ·have hb' : (Value.slice (some ⟨g, 0, none⟩) i c).ownBlock = some b := hb
    injection hb' with hb'
    subst hb'
    have := (Array.getElem?_eq_some_iff.1 q4).1
    simpa [World.setRow] using this)
/-! Rows of bytes. -/
end
end Go.Proofs.YtmcpnoailbmkkaaGreatDoor
/- Layer 7: Clone; Sorted, without (document). -/
namespace Go.Proofs.YtmcpnoailbmkkaaGreatDoor
open Go Go.RowKit Go.Proofs
attribute [local irreducible] J JQ JL JA JD

set_option maxRecDepth 100000 in
set_option maxHeartbeats 4000000 in
theorem CloneT (l : List St) (v : Value) (w : World) (hrow : Arr 4 eT w v l) (hl9 : l.length ≤ 1000) : Calls Tryz.prog 81 #[v] w (RetS 43 4 eT l w) := by
 have hrow0 := hrow
 obtain ⟨A, cap, rfl, -, ⟨hl, -⟩, hA⟩ := hrow
 refine J_enter (fun _ => False) (vs := [.slice A l.length cap]) (k := 7) (l := [(0, .slice A l.length cap)]) Tryz.func81 rfl rfl Tryz.ntmps81 rfl rfl (Wd.start _) ?_
 refine s9 ?_
 refine aP (pSlNil rfl rfl) ?_
 refine JL_bool (fun h4 => ?_) (fun h4 => ?_)
 ·refine s4 ?_
  refine J_own0 43 4 ?_
  refine kJ [] ?_
  refine s6 ?_
  refine JR_one rfl (rr_tmp rfl) ?_
  intro w' hw
  obtain rfl : l = [] := by
   cases l with
   | nil => rfl
   | cons y l =>
    obtain ⟨b, o, h, -⟩ := hA (by intro h; cases h)
    rw [h] at h4; cases h4
  exact ⟨none, 0, rfl, hw.pick (by repeat constructor)⟩
 ·refine s7 ?_
  refine aW (ow_slice0 (k := 4) (ty := 43) rfl rfl rfl (fun _ => by kernel_rfl)) (fun b5 hb5 => ?_)
  refine s1 ?_
  refine aS (oAppX (sl := 24) ET ([] : List St) l (fun w hw => hrow0.up ET hw.bel) rfl (Nat.le_refl _) (hl := by rw [List.length_nil]; omega)) (fun A7 c7 => ?_)
  rw [List.nil_append]
  refine s4 ?_
  refine JR_one rfl (rr_tmp rfl) ?_
  intro w' hw
  exact ⟨A7, c7, rfl, hw.pick (by repeat constructor)⟩
theorem fidx_in {α : Type} {p : α → Bool} {l : List α} (h : 0 ≤ fidx p l) : ∃ (k : Nat) (hk : k < l.length), fidx p l = k ∧ p (l[k]'hk) = true ∧ ∀ j (hj : j < k), p (l[j]'(by omega)) = false := by
 unfold fidx at h ⊢
 split at h
 ·rename_i hk
  rw [if_pos hk]
  exact ⟨l.findIdx p, hk, rfl, List.findIdx_getElem, fun j hj => by simpa using List.not_of_lt_findIdx hj⟩
 ·omega
theorem fidx_out {α : Type} {p : α → Bool} {l : List α} (h : ¬ 0 ≤ fidx p l) : ∀ x ∈ l, p x = false := fun x hx => by
 rw [← Bool.not_eq_true]
 intro hp
 have hlt : l.findIdx p < l.length := List.findIdx_lt_length.2 ⟨x, hx, hp⟩
 unfold fidx at h
 rw [if_pos hlt] at h
 omega
end Go.Proofs.YtmcpnoailbmkkaaGreatDoor
/- Layer 7: without (document). -/
namespace Go.Proofs.YtmcpnoailbmkkaaGreatDoor
open Go Go.RowKit Go.Proofs
attribute [local irreducible] J JQ JL JA JD

end Go.Proofs.YtmcpnoailbmkkaaGreatDoor
/- Layers 2, 7: positions, outcomes, rulings compared (document). -/
namespace Go.Proofs.YtmcpnoailbmkkaaGreatDoor
open Go Go.RowKit Go.Proofs
attribute [local irreducible] J JQ JL JA JD

/-- An outcome: its stones are a slice. -/
structure Oc where
 d : Dv St
 g : Bool
def eO (p : Oc) : List Value := [p.d.v, .bool p.g]
theorem EO : Enc 2 eO := ⟨fun _ => rfl, fun x v h => by simp [eO, Dv.v] at h; rcases h with rfl | rfl <;> rfl⟩
abbrev Ocv (p : Oc) : Value := .agg #[p.d.v, .bool p.g]
def OcW (w : World) (p : Oc) : Prop := Arr 4 eT w p.d.v p.d.l
theorem OcW.up {w w' : World} {p : Oc} (h : OcW w p) (hb : Below w.heap.size w w') : OcW w' p := Arr.up ET h hb
/-- What an outcome says. -/
def oP (p : Oc) : List St × Bool := (p.d.l, p.g)
end Go.Proofs.YtmcpnoailbmkkaaGreatDoor
/- Layer 7: rulings compared (document). -/
namespace Go.Proofs.YtmcpnoailbmkkaaGreatDoor
open Go Go.RowKit Go.Proofs
attribute [local irreducible] J JQ JL JA JD

end Go.Proofs.YtmcpnoailbmkkaaGreatDoor
/- Layer 7: Good (document); is an end one? -/
namespace Go.Proofs.YtmcpnoailbmkkaaGreatDoor
open Go Go.RowKit Go.Proofs
attribute [local irreducible] J JQ JL JA JD

end Go.Proofs.YtmcpnoailbmkkaaGreatDoor
/- Layer 7: an end, read. -/
namespace Go.Proofs.YtmcpnoailbmkkaaGreatDoor
open Go Go.RowKit Go.Proofs
attribute [local irreducible] J JQ JL JA JD

theorem It.up_cell {b : Nat} {vs : List Value} {ty : TypeId} {w w' : World} (h : (cellB b vs ty).holds w) (hb : Below w.heap.size w w') : (cellB b vs ty).holds w' := by
 have h' : w.heap[b]? = some (.cells vs.toArray ty (0, 0)) := h
 have hlt : b < w.heap.size := (Array.getElem?_eq_some_iff.1 h').1
 show w'.heap[b]? = _
 rw [hb.block b hlt]; exact h'
end Go.Proofs.YtmcpnoailbmkkaaGreatDoor
/- Layer 7: Position. -/
namespace Go.Proofs.YtmcpnoailbmkkaaGreatDoor
open Go Go.RowKit Go.Proofs
attribute [local irreducible] J JQ JL JA JD

end Go.Proofs.YtmcpnoailbmkkaaGreatDoor
/-
  DERIVED: THE SHELF's CONTRACTS AT THIS DUMP, IN PLAIN WORDS (tools/lay-plain.mjs out of 'YtmcpnoailbmkkaaGreatDoorSh.lean', which tools/lay-shelf.mjs wrote): THE SAME DECLARATIONS UNDER THE SAME NAMES: 'import', 'namespace', 'open', 'def', 'theorem' AND NOTHING ELSE: no command of the shelf's: FOR A HAND-IN. Each laying: the table of numbers ('.._ren') and one theorem, a field a fact of the dump's own or the kernel's comparison; each contract: ONE APPLICATION.
-/
namespace Go.Proofs
open Go.Shelf
def Tryz.sortSt_ren : Go.Shelf.Ren := ⟨fun | 6 => 119 | 15 => 173 | 14 => 172 | 28 => 208 | 29 => 186 | 20 => 200 | 21 => 201 | 22 => 202 | 23 => 203 | 24 => 204 | 25 => 205 | 26 => 206 | 27 => 207 | 46 => 238 | 47 => 239 | 48 => 240 | 49 => 241 | 50 => 242 | 57 => 278 | n => n, fun | 22 => 24 | 24 => 43 | 25 => 231 | 3 => 3 | 39 => 275 | 0 => 0 | 53 => 287 | 55 => 255 | 4 => 4 | 46 => 306 | 45 => 305 | 50 => 203 | 5 => 5 | 9 => 9 | 66 => 337 | 70 => 341 | 76 => 371 | 77 => 182 | n => n, fun | n => n⟩
theorem Tryz.sortSt : Go.Proofs.SlLaysF0.n6 Tryz.prog Tryz.sortSt_ren := {
  mixed := by kernel_rfl
  f6 := ⟨Tryz.f119.name, by decide, Tryz.func119.trans (congrArg some (by kernel_rfl))⟩
  f14 := ⟨Tryz.f172.name, by decide, Tryz.func172.trans (congrArg some (by kernel_rfl))⟩
  f15 := Tryz.func173.trans (congrArg some (by kernel_rfl))
  f20 := ⟨Tryz.f200.name, by decide, Tryz.func200.trans (congrArg some (by kernel_rfl))⟩
  f21 := ⟨Tryz.f201.name, by decide, Tryz.func201.trans (congrArg some (by kernel_rfl))⟩
  f22 := ⟨Tryz.f202.name, by decide, Tryz.func202.trans (congrArg some (by kernel_rfl))⟩
  f23 := ⟨Tryz.f203.name, by decide, Tryz.func203.trans (congrArg some (by kernel_rfl))⟩
  f24 := ⟨Tryz.f204.name, by decide, Tryz.func204.trans (congrArg some (by kernel_rfl))⟩
  f25 := ⟨Tryz.f205.name, by decide, Tryz.func205.trans (congrArg some (by kernel_rfl))⟩
  f26 := ⟨Tryz.f206.name, by decide, Tryz.func206.trans (congrArg some (by kernel_rfl))⟩
  f27 := ⟨Tryz.f207.name, by decide, Tryz.func207.trans (congrArg some (by kernel_rfl))⟩
  f28 := Tryz.func208.trans (congrArg some (by kernel_rfl))
  f29 := Tryz.func186.trans (congrArg some (by kernel_rfl))
  f46 := ⟨Tryz.f238.name, by decide, Tryz.func238.trans (congrArg some (by kernel_rfl))⟩
  f47 := Tryz.func239.trans (congrArg some (by kernel_rfl))
  f48 := Tryz.func240.trans (congrArg some (by kernel_rfl))
  f49 := ⟨Tryz.f241.name, by decide, Tryz.func241.trans (congrArg some (by kernel_rfl))⟩
  f50 := ⟨Tryz.f242.name, by decide, Tryz.func242.trans (congrArg some (by kernel_rfl))⟩
  f57 := ⟨Tryz.f278.name, by decide, Tryz.func278.trans (congrArg some (by kernel_rfl))⟩
  t0 := Tryz.underlying0
  a0 := Tryz.isAgg0
  z0 := Tryz.sizeOf0
  v0 := Tryz.zeroValue0
  t3 := Tryz.underlying3
  a3 := Tryz.isAgg3
  z3 := Tryz.sizeOf3
  v3 := Tryz.zeroValue3
  t4 := Tryz.underlying4
  a4 := Tryz.isAgg4
  z4 := Tryz.sizeOf4
  v4 := Tryz.zeroValue4
  t5 := Tryz.underlying5
  a5 := Tryz.isAgg5
  z5 := Tryz.sizeOf5
  v5 := Tryz.zeroValue5
  t9 := Tryz.underlying9
  a9 := Tryz.isAgg9
  z9 := Tryz.sizeOf9
  v9 := Tryz.zeroValue9
  t22 := Tryz.underlying24
  a22 := Tryz.isAgg24
  z22 := Tryz.sizeOf24
  v22 := Tryz.zeroValue24
  t25 := Tryz.underlying231
  a25 := Tryz.isAgg231
  z25 := Tryz.sizeOf231
  v25 := Tryz.zeroValue231
  t39 := Tryz.underlying275
  a39 := Tryz.isAgg275
  z39 := Tryz.sizeOf275
  v39 := Tryz.zeroValue275
  t45 := Tryz.underlying305
  a45 := Tryz.isAgg305
  z45 := Tryz.sizeOf305
  v45 := Tryz.zeroValue305
  t46 := Tryz.underlying306
  a46 := Tryz.isAgg306
  z46 := Tryz.sizeOf306
  v46 := Tryz.zeroValue306
  t50 := Tryz.underlying203
  a50 := Tryz.isAgg203
  z50 := Tryz.sizeOf203
  v50 := Tryz.zeroValue203
  t53 := Tryz.underlying287
  a53 := Tryz.isAgg287
  z53 := Tryz.sizeOf287
  v53 := Tryz.zeroValue287
  t55 := Tryz.underlying255
  a55 := Tryz.isAgg255
  z55 := Tryz.sizeOf255
  v55 := Tryz.zeroValue255
  t66 := Tryz.underlying337
  a66 := Tryz.isAgg337
  z66 := Tryz.sizeOf337
  v66 := Tryz.zeroValue337
  t70 := Tryz.underlying341
  a70 := Tryz.isAgg341
  z70 := Tryz.sizeOf341
  v70 := Tryz.zeroValue341
  t76 := Tryz.underlying371
  a76 := Tryz.isAgg371
  z76 := Tryz.sizeOf371
  v76 := Tryz.zeroValue371
  t77 := Tryz.underlying182
  a77 := Tryz.isAgg182
  z77 := Tryz.sizeOf182
  v77 := Tryz.zeroValue182 }
end Go.Proofs
/- Parameters: what their reading gives, and that they are read again as they were. Over any program. -/
namespace Go.Proofs.YtmcpnoailbmkkaaGreatDoor
open Go Go.ChangeShapes Go.WideShapes Go.ChangeAt Go.RowKit Go.Deep
section
variable {P : Program} {H : Type} {enc : TypeId × Value → H}
/-- What an element's reading gives, by its cells. -/
def ElC (P : Program) (enc : TypeId × Value → H) (e : TypeId) (R : World → List Value → Prop) : Prop :=
 ∀ (W : World) (n : Nat) (cs : List Value) (y : DataW H × List MemPlace), DataW.trod enc P W 0 (fun _ => true) true n e cs = some y → R W cs ∧ ∀ W' : World, Below W.heap.size W W' → ∀ sp : Nat → Bool, (∀ q ∈ y.2, sp q.block = true) → ∃ m, DataW.trod enc P W' 0 sp true m e cs = some y
theorem elInt {e : TypeId} {k : IntKind} (ht : P.underlying e = some (.int k)) : ElC P enc e (fun _ cs => ∃ x, cs = [.int k x] ∧ (Lit.int k x).wf = true) := fun W n cs y h => by
 obtain ⟨x, rfl, rfl, w⟩ := DataW.trod_int ht h
 exact ⟨⟨x, rfl, w⟩, fun W' _ sp _ => ⟨1, by simp [DataW.trod, ht, w]⟩⟩
theorem elBool {e : TypeId} (ht : P.underlying e = some .bool) : ElC P enc e (fun _ cs => ∃ x, cs = [.bool x]) := fun W n cs y h => by
 obtain ⟨x, rfl, rfl⟩ := DataW.trod_bool ht h
 exact ⟨⟨x, rfl⟩, fun W' _ sp _ => ⟨1, by simp [DataW.trod, ht]⟩⟩
theorem ElC.imp {e : TypeId} {R R' : World → List Value → Prop} (h : ElC P enc e R) (hr : ∀ W cs, R W cs → R' W cs) : ElC P enc e R' := fun W n cs y hy => ⟨hr _ _ (h W n cs y hy).1, (h W n cs y hy).2⟩
theorem cells_below {W W' : World} (hb : Below W.heap.size W W') {b n : Nat} {a : Addr} {cs : List Value} (h : W.cells? b a n = some cs) (ha : a.block < W.heap.size) : W'.cells? b a n = some cs := by
 have e : ∀ i, W'.cell? (a.add i) = W.cell? (a.add i) := fun i => by
  have hbk : (a.add i).block = a.block := by unfold Addr.add; split <;> rfl
  exact World.cell?_of_block (by rw [hbk]; exact hb.block _ ha)
 unfold World.cells? at h ⊢
 simp only [e]
 exact h
theorem cell_spot {W : World} {a : Addr} {v : Value} (h : W.cell? a = some v) : a.spot = none ∧ a.block < W.heap.size := by
 unfold World.cell? at h
 split at h
 ·rename_i c t fz hh
  split at h
  ·cases h
  ·rename_i hs
   exact ⟨by simpa using hs, (Array.getElem?_eq_some_iff.1 hh).1⟩
 ·cases h
theorem add_mod (a : Addr) (i j : Nat) : (a.add i).add j = a.add (i + j) := by
 unfold Addr.add
 by_cases h1 : i = 0
 ·by_cases h2 : j = 0 <;> simp [h1, h2]
 ·by_cases h2 : j = 0
  ·simp [h1, h2]
  ·simp [h1, h2, Nat.add_assoc]
/-- A slice whose elements are of k cells. -/
theorem elRow {α : Type} {t e k : Nat} {ec : α → List Value} {wf : World → α → Prop} (ht : P.underlying t = some (.slice e)) (hsz : P.cellsOf e = k) (E : Enc k ec) (h0k : 0 < k) (he : ElC P enc e (fun W cs => ∃ x, cs = ec x ∧ wf W x)) :
  ElC P enc t (fun W cs => ∃ p : Dv α, cs = [p.v] ∧ Arr k ec W p.v p.l ∧ p.n = p.l.length ∧ ∀ x ∈ p.l, wf W x) := fun W n cs y h => by
 rcases open_slice ht h with ⟨rfl, rfl⟩ | ⟨a, len, cap, m, n', D, Pl, rfl, hb, hl, hm, hmm, rfl, hi⟩
 ·exact ⟨⟨⟨none, 0, 0, []⟩, rfl, Arr.nil W, rfl, fun _ h => by cases h⟩, fun W' _ sp _ => ⟨1, by simp [DataW.trod, ht]⟩⟩
 ·simp only [if_true] at hmm
  subst hmm
  rw [hsz] at hi
  have each : ∀ i, i < m → ∃ cs', ∃ s : α, W.cells? 0 (a.add (i * k)) k = some cs' ∧ cs' = ec s ∧ wf W s ∧ DataW.trod enc P W 0 (fun _ => true) true n' e cs' = some (D i, Pl i) := by
   intro i hic
   obtain ⟨cs', h3, h4⟩ := hi i hic
   obtain ⟨⟨s, h5, h6⟩, -⟩ := he W n' cs' _ h4
   exact ⟨cs', s, h3, h5, h6, h4⟩
  have each2 : ∀ i, i < m → ∃ s : α, W.cells? 0 (a.add (i * k)) k = some (ec s) ∧ wf W s ∧ DataW.trod enc P W 0 (fun _ => true) true n' e (ec s) = some (D i, Pl i) := fun i hic => by
   obtain ⟨cs', s, h3, rfl, h6, h4⟩ := each i hic
   exact ⟨s, h3, h6, h4⟩
  clear each
  have first : ∀ i, i < m → ∃ v, W.cell? (a.add (i * k)) = some v := by
   intro i hi
   obtain ⟨s, h3, -⟩ := each2 i hi
   have hc := (World.cells?_some h3).2.2 0 h0k
   rw [List.getElem?_eq_getElem (by rw [E.1]; exact h0k)] at hc
   exact ⟨_, by simpa [Addr.add] using hc⟩
  have re : ∀ W' : World, Below W.heap.size W W' → ∀ sp : Nat → Bool, (∀ q ∈ MemPlace.row a (m * P.cellsOf e) ++ (List.range m).flatMap Pl, sp q.block = true) → ∃ f, DataW.trod enc P W' 0 sp true f t [.slice (some a) len m] = some (.slice ((List.range len).map D) ((List.range (m - len)).map fun j => D (len + j)), MemPlace.row a (m * P.cellsOf e) ++ (List.range m).flatMap Pl) := by
   intro W' hb' sp hsp
   rcases Nat.eq_zero_or_pos m with h0 | h0
   ·subst h0
    obtain rfl : len = 0 := by omega
    cases hs : sp a.block with
    | true => exact shut_slice_whole_cells (enc := enc) (w := W') (held := true) (base := 0) (P := P) (a := a) (len := 0) (cap := 0) ht (Nat.zero_le _) (Nat.le_refl _) (Nat.zero_le _) hs D Pl (fun i hi => absurd hi (Nat.not_lt_zero _))
    | false =>
     have := shut_slice_cells (enc := enc) (w := W') (held := true) (base := 0) (P := P) (a := a) (len := 0) (cap := 0) ht (Nat.zero_le _) (Nat.le_refl _) (Nat.zero_le _) hs D Pl (fun i hi => absurd hi (Nat.not_lt_zero _))
     simpa using this
   ·obtain ⟨v0, c0⟩ := first 0 h0
    have hblk := (cell_spot (by simpa [Addr.add] using c0)).2
    have hs : sp a.block = true := hsp (.cell a.block (a.off + 0)) (by
     unfold MemPlace.row
     simp only [List.mem_append, List.mem_map, List.mem_range]
     exact .inl ⟨0, by rw [hsz]; exact Nat.mul_pos h0 h0k, rfl⟩)
    refine shut_slice_whole_cells (enc := enc) (w := W') (held := true) (base := 0) (P := P) (a := a) (len := len) (cap := m) ht (Nat.zero_le _) hl hm hs D Pl (fun i hi => ?_)
    obtain ⟨s, h3, -, h4⟩ := each2 i hi
    obtain ⟨-, hre⟩ := he W n' _ _ h4
    obtain ⟨f, hf⟩ := hre W' hb' sp (fun q hq => hsp q (List.mem_append_right _ (List.mem_flatMap.2 ⟨i, List.mem_range.2 hi, hq⟩)))
    refine ⟨ec s, f, ?_, hf⟩
    rw [hsz]
    refine cells_below hb' h3 ?_
    have : (a.add (i * k)).block = a.block := by unfold Addr.add; split <;> rfl
    rw [this]; exact hblk
  refine ⟨?_, re⟩
  have each3 : ∀ i, i < m → ∃ s : α, W.cells? 0 (a.add (i * k)) k = some (ec s) ∧ wf W s := fun i hic => by
   obtain ⟨s, h3, h4, -⟩ := each2 i hic
   exact ⟨s, h3, h4⟩
  rcases Nat.eq_zero_or_pos len with h0 | h0
  ·subst h0
   exact ⟨⟨some a, 0, m, []⟩, rfl, ⟨some a, m, rfl, Nat.zero_le _, ⟨Nat.zero_le _, hm⟩, fun h => absurd rfl h⟩, rfl, fun _ h => by cases h⟩
  ·obtain ⟨s0, -⟩ := each3 0 (by omega)
   haveI : Inhabited α := ⟨s0⟩
   obtain ⟨S, hS⟩ := choose_lt each3
   obtain ⟨v0, c0⟩ := first 0 (by omega)
   have hsp := (cell_spot (by simpa [Addr.add] using c0)).1
   obtain ⟨b, o, sp⟩ := a
   simp only at hsp
   subst hsp
   refine ⟨⟨some ⟨b, o, none⟩, len, m, (List.range len).map S⟩, rfl, ⟨some ⟨b, o, none⟩, m, by simp, by simpa using hl, ⟨by simp only [List.length_map, List.length_range]; unfold maxLen at hm; omega, hm⟩, fun hne => ⟨b, o, rfl, fun j hj i hi => ?_⟩⟩, by simp, fun x hx => ?_⟩
   ·have hj' : j < len := by simpa using hj
    have hc := (World.cells?_some (hS j (by omega)).1).2.2
    have e : ((List.range len).map S)[j]'hj = S j := by simp
    rw [e, ← hc i hi, add_mod]
    unfold Addr.add
    by_cases h0 : j * k + i = 0
    ·rw [if_pos h0]; have h1 : j * k = 0 := by omega
     have : i = 0 := by omega
     subst this; rw [h1]; rfl
    ·rw [if_neg h0, Nat.add_assoc]
   ·obtain ⟨i, hi, rfl⟩ := List.mem_map.1 hx
    exact (hS i (by have := List.mem_range.1 hi; omega)).2
/-- A struct, by its fields. -/
theorem elStruct {t : TypeId} {fs : Array Field} {Rs : Nat → World → List Value → Prop} (ht : P.underlying t = some (.struct fs)) (hf : ∀ (i : Nat) (f : Field), fs[i]? = some f → ElC P enc f.type (Rs i)) :
  ElC P enc t (fun W cs => cs.length = P.cellsOf t ∧ ∀ (i : Nat) (f : Field), fs[i]? = some f → Rs i W ((cs.drop f.offset).take (P.cellsOf f.type))) := fun W n cs y h => by
 obtain ⟨xs, m, -, rfl, hl, hxl, hx⟩ := DataW.trod_struct ht h
 have hxi : ∀ (i : Nat) (f : Field), fs[i]? = some f → ∃ yi, xs[i]? = some yi := fun i f hi => by
  have hlt : i < fs.size := (Array.getElem?_eq_some_iff.1 hi).1
  exact ⟨_, List.getElem?_eq_getElem (by omega)⟩
 refine ⟨⟨hl, fun i f hi => ?_⟩, fun W' hb sp hsp => ?_⟩
 ·obtain ⟨yi, hyi⟩ := hxi i f hi
  exact (hf i f hi W m _ yi (by rw [hx i f hi, hyi])).1
 ·have hre : ∀ i, i < fs.size → ∃ q, ∀ f, fs[i]? = some f → DataW.trod enc P W' 0 sp true q f.type ((cs.drop f.offset).take (P.cellsOf f.type)) = xs[i]? := fun i hi => by
   have hfi : fs[i]? = some (fs[i]'hi) := Array.getElem?_eq_getElem hi
   obtain ⟨yi, hyi⟩ := hxi i _ hfi
   obtain ⟨q, hq⟩ := (hf i _ hfi W m _ yi (by rw [hx i _ hfi, hyi])).2 W' hb sp (fun q hq => hsp q (List.mem_flatMap.2 ⟨yi, List.mem_of_getElem? hyi, hq⟩))
   exact ⟨q, fun f hf' => by rw [hfi] at hf'; cases hf'; rw [hq, hyi]⟩
  obtain ⟨Q, hQ⟩ : ∃ Q, ∀ i, i < fs.size → ∀ f, fs[i]? = some f → DataW.trod enc P W' 0 sp true Q f.type ((cs.drop f.offset).take (P.cellsOf f.type)) = xs[i]? := by
   have key : ∀ k, k ≤ fs.size → ∃ Q, ∀ i, i < k → ∀ f, fs[i]? = some f → DataW.trod enc P W' 0 sp true Q f.type ((cs.drop f.offset).take (P.cellsOf f.type)) = xs[i]? := by
    intro k
    induction k with
    | zero => exact fun _ => ⟨0, fun i hi => absurd hi (Nat.not_lt_zero _)⟩
    | succ k ih =>
     intro hk
     obtain ⟨Q1, h1⟩ := ih (by omega)
     obtain ⟨q, h2⟩ := hre k (by omega)
     refine ⟨Q1 + q, fun i hi f hf' => ?_⟩
     obtain ⟨yi, hyi⟩ := hxi i f hf'
     rw [hyi]
     by_cases e : i = k
     ·subst e
      exact DataW.trod_le (Nat.le_add_left _ _) (by rw [h2 f hf', hyi])
     ·exact DataW.trod_le (Nat.le_add_right _ _) (by rw [h1 i (by omega) f hf', hyi])
   exact key _ (Nat.le_refl _)
  refine ⟨Q + 1, trod_struct_mk ht hl ?_⟩
  have hmm : ∀ (l : List Field) (zs : List (DataW H × List MemPlace)), l.length = zs.length → (∀ (i : Nat) (f : Field), l[i]? = some f → DataW.trod enc P W' 0 sp true Q f.type ((cs.drop f.offset).take (P.cellsOf f.type)) = zs[i]?) → l.mapM (fun f : Field => DataW.trod enc P W' 0 sp true Q f.type ((cs.drop f.offset).take (P.cellsOf f.type))) = some zs := by
   intro l
   induction l with
   | nil => intro zs hl _; cases zs with | nil => rfl | cons => cases hl
   | cons f l ih =>
    intro zs hl h
    cases zs with
    | nil => cases hl
    | cons z zs =>
     have h0 := h 0 f rfl
     rw [List.mapM_cons, h0]
     rw [ih zs (by simpa using hl) (fun i f hi => h (i + 1) f hi)]
     rfl
  exact hmm _ _ (by rw [Array.length_toList]; exact hxl.symm) (fun i f hi => by
   rw [Array.getElem?_toList] at hi
   exact hQ i (Array.getElem?_eq_some_iff.1 hi).1 f hi)
/-- A parameter read, by its cells. -/
theorem ElC.trod {t : TypeId} {R : World → List Value → Prop} (h : ElC P enc t R) {W : World} {v : Value} {d : DataW H} {p : List MemPlace} (hd : DataW.Trod enc P W 0 (fun _ => true) true t v d p) : R W v.cells.toList ∧ ∀ W' : World, Below W.heap.size W W' → ∀ sp : Nat → Bool, (∀ q ∈ p, sp q.block = true) → DataW.Trod enc P W' 0 sp true t v d p := by
 obtain ⟨n, hn⟩ := hd
 obtain ⟨h1, h2⟩ := h W n _ _ hn
 exact ⟨h1, h2⟩
end
end Go.Proofs.YtmcpnoailbmkkaaGreatDoor
/- Groups of items; elements of own rows, whole. Over any program. -/
namespace Go.Proofs.YtmcpnoailbmkkaaGreatDoor
open Go Go.RowKit Go.Proofs Go.Shelf
section
variable {P : Program} {n : Nat} {B : Bs} {Q : Exit → Act → World → Prop} {l : Sl} {H H1 HA HS rows : List It} {ops : Array Oper} {rest : List Oper} {o : Oper} {c : Code} {w w' : World} {x : Operand} {t : TypeId}
/-- An element of an own row, whole. -/
theorem vOwnA {α : Type} {k : Nat} {enc : α → List Value} (E : Enc k enc) {m c b j : Nat} {cs : List Value} {L : List α} {ty : TypeId} [g : Agg P t true] [z : Siz P t k] (ho : o.op = .load t x) (hx : evl l x = some (.pointer (some ⟨b, 0 + j * k + 0, none⟩))) (hm : ownB ty k (some ⟨b, 0, none⟩) m c (L.flatMap enc) ∈ H) (hj : j < L.length) (hv : enc (L[j]'hj) = cs) : RV P n B l H o (.agg cs.toArray) := by
 subst hv
 refine rv_ownagg ho hx g.h (by rw [E.len]; exact z.h) hm (fun i v hi => ?_)
 have h := (List.getElem?_eq_some_iff.1 hi).1
 rw [E.len] at h
 rw [Nat.zero_add, Nat.add_zero, flat_get E hj i h]; exact hi
theorem Wd.newA {A : It} {w0 w : World} {H : List It} (h : Wd (bs w0) H w) (hA : A ∈ H) (hr : A.ro = false) : (∀ b, A.foot b → w0.heap.size ≤ b) ∧ ∀ b, A.foot b → b < w.heap.size := by
 have o := (h.ok A hA).2
 refine ⟨fun b hb => ?_, fun b hb => (o b hb).2⟩
 rcases (o b hb).1 with h1 | h1 | h1
 ·rw [hr] at h1; cases h1
 ·exact h1.elim
 ·exact h1
theorem Wd.belO {A : It} {w0 W w : World} {H : List It} {d : List Deferred} (h : Wd ⟨W, A.foot, none, d⟩ H w) (hb : Below w0.heap.size w0 W) (hA : ∀ b, A.foot b → w0.heap.size ≤ b) : Below w0.heap.size w0 w :=
 ⟨h.os.trans hb.os, h.tape.trans hb.tape, h.output.trans hb.output, Nat.le_trans hb.size h.size, fun b hlt => (h.block b (Nat.lt_of_lt_of_le hlt hb.size) (fun hf => by have := hA b hf; omega)).trans (hb.block b hlt)⟩
theorem all_nro {HA : List It} (h : (HA.all fun A => !A.ro) = true) : ∀ A ∈ HA, A.ro = false := fun A hA => by
 have := List.all_eq_true.1 h A hA
 cases e : A.ro
 ·rfl
 ·rw [e] at this; cases this
/-- One item in the place of some, in their blocks. -/
theorem Wd.gather {C : It} (h : Wd B H w) (hk : Pk (rows ++ H1) H) (hr : (rows.all fun A => !A.ro) = true) (hC : C.holds w) (hf : ∀ b, C.foot b → ∃ A ∈ rows, A.foot b) : Wd B (C :: H1) w := by
 have h0 := h.pick hk
 have hr' := all_nro hr
 obtain ⟨s1, s2, s3⟩ := List.pairwise_append.1 h0.sep
 refine ⟨h0.os, h0.tape, h0.output, h0.size, h0.block, fun D hD => ?_, List.pairwise_cons.2 ⟨fun D hD => .inr (fun b h1 h2 => ?_), s2⟩⟩
 ·rcases List.mem_cons.1 hD with rfl | hD
  ·refine ⟨hC, fun b hb => ?_⟩
   obtain ⟨A, hA, hAb⟩ := hf b hb
   have o := (h0.ok A (by simp [hA])).2 b hAb
   exact ⟨o.1.imp_left (fun h => by rw [hr' A hA] at h; cases h), o.2⟩
  ·exact h0.ok D (by simp [hD])
 ·obtain ⟨A, hA, hAb⟩ := hf b h1
  exact sepR.out (s3 A hA D hD) (hr' A hA) b hAb h2
/-- Items as one. -/
def grpB (HA : List It) : It where
 foot b := ∃ A ∈ HA, A.foot b
 holds w := (∀ A ∈ HA, A.holds w) ∧ HA.Pairwise (fun (A C : It) => ∀ b : Nat, A.foot b → C.foot b → False)
 st w w' hb h := ⟨fun A hA => A.st w w' (fun b hf => hb b ⟨A, hA, hf⟩) (h.1 A hA), h.2⟩
theorem pw_out (hr : (HA.all fun A => !A.ro) = true) (h : HA.Pairwise sepR) : HA.Pairwise (fun (A C : It) => ∀ b : Nat, A.foot b → C.foot b → False) :=
 h.imp_of_mem (fun hA _ hs => sepR.out hs (all_nro hr _ hA))
theorem Wd.close (h : Wd B H w) (hk : Pk (HA ++ H1) H) (hr : (HA.all fun A => !A.ro) = true) : Wd B (grpB HA :: H1) w := by
 have h0 := h.pick hk
 exact h.gather hk hr ⟨fun A hA => (h0.ok A (by simp [hA])).1, pw_out hr (List.pairwise_append.1 h0.sep).1⟩ (fun b hb => hb)
theorem Wd.closeS (h : Wd B H w) (hk : Pk (HA ++ H1) H) (hr : (HA.all fun A => !A.ro) = true) (hs : HS.Sublist HA) : Wd B (grpB HS :: H1) w := by
 have h0 := h.pick hk
 exact h.gather hk hr ⟨fun A hA => (h0.ok A (by simp [hs.subset hA])).1, (pw_out hr (List.pairwise_append.1 h0.sep).1).sublist hs⟩ (fun b ⟨A, hA, hb⟩ => ⟨A, hs.subset hA, hb⟩)
theorem Wd.opn (h : Wd B H w) (hk : Pk (grpB HA :: H1) H) : Wd B (HA ++ H1) w := by
 have h0 := h.pick hk
 have hs := List.pairwise_cons.1 h0.sep
 have o := h0.ok (grpB HA) (by simp)
 refine ⟨h0.os, h0.tape, h0.output, h0.size, h0.block, fun D hD => ?_, List.pairwise_append.2 ⟨o.1.2.imp (fun h => .inr h), hs.2, fun A hA D hD => .inr (fun b h1 h2 => sepR.out (hs.1 D hD) rfl b ⟨A, hA, h1⟩ h2)⟩⟩
 rcases List.mem_append.1 hD with hD | hD
 ·refine ⟨o.1.1 D hD, fun b hb => ?_⟩
  have o2 := o.2 b ⟨D, hD, hb⟩
  exact ⟨o2.1.imp_left (fun h => by cases h), o2.2⟩
 ·exact h0.ok D (by simp [hD])
/-- What a call does to items, told of their group. -/
theorem Pk.refl : ∀ H : List It, Pk H H
 | [] => .nil _
 | _ :: H => .pick (.here H) (Pk.refl H)
/-- In a drawn region: a new block of cells is an own row. -/
theorem dAsOwn {ord : List Nat} {ld lx : List Nat} {H0 Hx H' : List It} {fuel : Nat} {listed : Array Bool} {b m kk ty : Nat} {vs : List Value} (ha : At (cellB b vs ty) (ownB ty kk (some ⟨b, 0, none⟩) m m vs) H H') (hl : vs.length = m * kk) (hm : m ≤ 1000000) (h : JD ord P n B ops Q ld H0 lx Hx fuel listed l H') : JD ord P n B ops Q ld H0 lx Hx fuel listed l H := fun a w h1 h2 => h a w h1 (h2.asOwn ha hl hm)
/-- append(s, t...), where s is not nil: nor is what comes of it. -/
theorem oAppG {α : Type} {k : Nat} {enc : α → List Value} (E : Enc k enc) {sl e : TypeId} {z : Value} {bytes d : Nat} {x y : Operand} {Y : Option Addr} {g c m c' : Nat} (L M : List α) {G : Nat × Nat → List It} [u : Und P sl (.slice e)] [i : Inf P e z k bytes] [s : Siz P e k]
 (hnews : ∀ w, Wd B H w → Arr k enc w (.slice Y m c') M) (hm : m = M.length) (hLc : L.length ≤ c) (ho : o.op = .call { callee := .builtin .append, args := #[x, y], argTypes := #[sl, sl] } := by rfl) (hk : 0 < k := by decide) (hzs : z.cells.size = k := by rfl) (hby : bytes ≤ 128 := by decide) (hd : o.dst = some d := by rfl) (hn : Nat.ble n d = false := by rfl)
 (hx : evl l x = some (.slice (some ⟨g, 0, none⟩) L.length c) := by rfl) (hy : evl l y = some (.slice Y m c') := by rfl) (hl : L.length + M.length ≤ 1000000 := by omega)
 (hat : ∀ t : Nat × Nat, At (ownB e k (some ⟨g, 0, none⟩) L.length c (L.flatMap enc)) (ownB e k (some ⟨t.1, 0, none⟩) (L ++ M).length t.2 ((L ++ M).flatMap enc)) H (G t) := by intro t; repeat constructor) : OpW P n B (some (ownB e k (some ⟨g, 0, none⟩) L.length c (L.flatMap enc))) l H o (fun _ : Nat × Nat => True) (fun t => (d, .slice (some ⟨t.1, 0, none⟩) (L ++ M).length t.2) :: l) G := by
 subst hm
 cases Y with
 | some a =>
  exact OpW.of_run (T := Nat × Nat) (φ := fun _ => True) (G := G) hd hn (V := fun t => .slice (some ⟨t.1, 0, none⟩) (L ++ M).length t.2) (fun a1 w ha hw => by
   have hown : Own 0 e k enc w (.slice (some ⟨g, 0, none⟩) L.length c) L := (hw.ok _ (hat (0, 0)).mem).1
   have hnw : ∀ j v, (M.flatMap enc)[j]? = some v → w.cell? (a.add j) = some v := fun j v hu => by
    have hne : M ≠ [] := by intro e; subst e; simp at hu
    obtain ⟨A', cap, e, -, -, h4⟩ := hnews w hw
    injection e with e1
    obtain ⟨b, q, e2, hh⟩ := h4 hne
    rw [← e1] at e2
    injection e2 with e2
    subst e2
    exact hh.news E hk j v hu
   obtain ⟨v', w', h1, h2, h3, h4, A', c2, rfl⟩ := run_app (sl := sl) (ty := o.type) E hk u.h i.h hzs hby hown (a := a) (m := M.length) (c := c') rfl hnw hl (Nat.zero_le _)
   rw [← List.length_append] at h1 h2 h4
   obtain ⟨g', hg'⟩ : ∃ g', (Value.slice A' (L ++ M).length c2).ownBlock = some g' := by
    rcases h4 with h | h
    ·exact ⟨g, h⟩
    ·exact ⟨_, h⟩
   obtain rfl : A' = some ⟨g', 0, none⟩ := by
    obtain ⟨A2, c3, e, -, h6⟩ := row_form h2
    injection e with e1 _ e3
    subst e1 e3
    exact (h6 g').1 hg'
   have hc : Chg (ownB e k (some ⟨g, 0, none⟩) L.length c (L.flatMap enc)) w w' := ⟨h3.os, h3.tape, h3.output, h3.size, fun b hb hnb => h3.block b hb (fun e => hnb e.symm)⟩
   refine ⟨(g', c2), w', trivial, run_append_op ho (ha.ev hx) (ha.ev hy) h1, hw.chg (hat (g', c2)) rfl rfl hc ?_ (fun b hb => ?_), hc⟩
   ·exact h2
   ·have hb' : (Value.slice (some ⟨g', 0, none⟩) (L ++ M).length c2).ownBlock = some b := hb
    rw [hb'] at h4
    refine ⟨?_, (World.ownsRow.lt h2 b hb').2⟩
    rcases h4 with h4 | h4
    ·exact .inl h4.symm
    ·injection h4 with h4; exact .inr (Nat.le_of_eq h4.symm))
 | none =>
  refine OpW.of_run (T := Nat × Nat) (φ := fun _ => True) (G := G) hd hn (V := fun t => .slice (some ⟨t.1, 0, none⟩) (L ++ M).length t.2) (fun a1 w ha hw => ?_)
  have hM : M = [] := by
   obtain ⟨A', cap, e, -, -, h4⟩ := hnews w hw
   injection e with e1
   cases M with
   | nil => rfl
   | cons u M =>
    obtain ⟨b, q, e2, -⟩ := h4 (by simp)
    rw [← e1] at e2; cases e2
  subst hM
  have hat' := hat (g, c)
  rw [List.append_nil] at hat'
  refine ⟨(g, c), w, trivial, ?_, ?_, ⟨rfl, rfl, rfl, Nat.le_refl _, fun _ _ _ => rfl⟩⟩
  ·rw [List.append_nil]
   exact run_append_op ho (ha.ev hx) (ha.ev hy) (run_append0' sl e o.type (some ⟨g, 0, none⟩) L.length c c' k u.h s.h hLc)
  ·rw [← hat'.same]; exact hw
end
end Go.Proofs.YtmcpnoailbmkkaaGreatDoor
/- Layer 7: sorted. -/
namespace Go.Proofs.YtmcpnoailbmkkaaGreatDoor
open Go Go.RowKit Go.Proofs Go.Shelf Go.Sort
/-- A stone with a valid name. -/
structure SN where
 st : St
 ok : bnd st
instance : Inhabited SN := ⟨⟨⟨0, 0, 0, 0⟩, by unfold bnd; decide⟩⟩
def encS (x : SN) : List Value := eT x.1
def cfS (x y : SN) : Int := kyS x.1 - kyS y.1
set_option maxHeartbeats 1000000 in
theorem closure_sN (x y : SN) (W : World) : Calls Tryz.prog 120 #[.agg (encS x).toArray, .agg (encS y).toArray] W fun e w' => e = .returned (.int .i64 (cfS x y)) ∧ ∃ q os', w' = grow (W.drewN q) os' := by
 obtain ⟨⟨t1, n1, x1, y1⟩, ⟨⟨a1, a2⟩, a3, a4⟩⟩ := x
 obtain ⟨⟨t2, n2, x2, y2⟩, ⟨⟨b1, b2⟩, b3, b4⟩⟩ := y
 simp only at a1 a2 a3 a4 b1 b2 b3 b4
 show Calls Tryz.prog 120 #[Stv ⟨t1, n1, x1, y1⟩, Stv ⟨t2, n2, x2, y2⟩] W _
 have e : cfS ⟨⟨t1, n1, x1, y1⟩, ⟨⟨a1, a2⟩, a3, a4⟩⟩ ⟨⟨t2, n2, x2, y2⟩, ⟨⟨b1, b2⟩, b3, b4⟩⟩ = (t1 - t2) * 8 + n1 - n2 := by
  show (t1 * 8 + n1) - (t2 * 8 + n2) = _
  omega
 rw [e]
 clear e
 go_enter Tryz.func120, Tryz.ntmps120
 go_wp2_with fail
 go_ret
 exact ⟨rfl, 0, _, by rw [alloc_eq_grow, alloc_eq_grow, grow_grow]; rfl⟩
theorem lt_sN (x y : SN) : ltOf cfS x y = decide (kyS x.1 < kyS y.1) := by
 unfold ltOf cfS
 by_cases h : kyS x.1 < kyS y.1
 ·simp [h]; omega
 ·simp [h]; omega
theorem swo_sN : SWO (ltOf cfS) where
 irrefl x := by rw [lt_sN]; simp
 trans x y z h1 h2 := by rw [lt_sN] at *; simp at *; omega
 ntrans x y z h1 h2 := by rw [lt_sN] at *; simp at *; omega
theorem grown_sN {w : World} {g n : Nat} {os : Array Obj} (d : Array SN) : w.grownBy (sortWorldK encS 4 w g 0 n d os) (some g) := by
 refine ⟨rfl, rfl, rfl, by simp [sortWorldK, putRowK, putRow, mapBlock, grow, Sort.ahead], fun k hk hne => ?_⟩
 unfold sortWorldK putRowK
 rw [heap_grow_old _ _ (by simpa [putRow, mapBlock, Sort.ahead] using hk)]
 have : g ≠ k := fun e => hne (by rw [e])
 simp [putRow, mapBlock, Sort.ahead, Array.getElem?_modify, this]
/-- Stones with valid names, as the sort's elements. -/
def toSN (l : List St) (h : ∀ s ∈ l, bnd s) : List SN := l.attach.map fun s => ⟨s.1, h s.1 s.2⟩
theorem toSN_val (l : List St) (h : ∀ s ∈ l, bnd s) : (toSN l h).map SN.st = l := by
 unfold toSN
 rw [List.map_map]
 show l.attach.map (fun s => s.1) = l
 exact List.attach_map_subtype_val l
theorem flat_sN (d : Array SN) (l : List St) (hd : d.toList.map SN.st = l) (j : Nat) (hj : j < l.length * 4) : (l.flatMap eT)[j]? = some (flatK encS 4 d)[j]! := by
 have hs : d.size = l.length := by rw [← hd]; simp
 rw [get_flatK _ _ _ _ (by rw [hs]; exact hj)]
 have hq : j / 4 < l.length := by omega
 have hqd : j / 4 < d.size := by omega
 have h1 := flat_get ET hq (j % 4) (by omega)
 have e : j / 4 * 4 + j % 4 = j := by omega
 rw [e] at h1
 have h2 : (d[j / 4]!).1 = l[j / 4]'hq := by
  rw [getElem!_pos d (j / 4) hqd]
  have : (d.toList.map SN.st)[j / 4]? = l[j / 4]? := by rw [hd]
  rw [List.getElem?_map, Array.getElem?_toList, Array.getElem?_eq_getElem hqd, List.getElem?_eq_getElem hq] at this
  simpa using this
 rw [h1]
 show _ = some (eT (d[j / 4]!).1)[j % 4]!
 rw [h2, List.getElem!_eq_getElem?_getD]
 have hlt : j % 4 < (eT (l[j / 4]'hq)).length := by rw [ET.len]; omega
 rw [List.getElem?_eq_getElem hlt]; rfl
theorem row_sN {w : World} {g cap m : Nat} {d d' : Array SN} {l l' : List St} {os : Array Obj} (h : w.ownsRow 0 43 4 (.slice (some ⟨g, 0, none⟩) l.length cap) l.length (l.flatMap eT)) (hd : d.toList.map SN.st = l) (hd' : d'.toList.map SN.st = l') (hs : d'.size = d.size) :
  HoldsK encS 4 w g 0 d ∧ (sortWorldK encS 4 w g 0 m d' os).ownsRow 0 43 4 (.slice (some ⟨g, 0, none⟩) l'.length cap) l'.length (l'.flatMap eT) := by
 have hn : d.size = l.length := by rw [← hd]; simp
 have hn' : d'.size = l'.length := by rw [← hd']; simp
 have hH : HoldsK encS 4 w g 0 d := by
  intro j hj
  rw [size_flatK, hn] at hj
  rw [Nat.zero_add]
  have hlen := flat_len ET l
  have h1 := flat_sN d l hd j hj
  rw [List.getElem?_eq_getElem (by omega)] at h1
  refine ⟨?_, h.frozenAt j⟩
  rw [h.cellAt j hj, List.getElem?_eq_getElem (by omega), h1]; rfl
 refine ⟨hH, ?_⟩
 obtain ⟨h1, h2⟩ := h
 rcases h2 with ⟨h2, -⟩ | ⟨g', cap', cur, e, -, hg, hc1, hc2, hc3, hc4⟩
 ·cases h2
 injection e with e1 _ e3
 injection e1 with e1
 injection e1 with e1
 subst e1 e3
 have hgl := (Array.getElem?_eq_some_iff.1 hg).1
 have hheap : (sortWorldK encS 4 w g 0 m d' os).heap[g]? = some (.cells (putCells id 0 (flatK encS 4 d') cur) 43 (0, 0)) := by
  unfold sortWorldK putRowK
  rw [heap_grow_old _ _ (by simpa [putRow, mapBlock, Sort.ahead] using hgl)]
  simp [putRow, mapBlock, Sort.ahead, Array.getElem?_modify, hg, onCells]
 refine ⟨by rw [flat_len ET], .inr ⟨g, cap, _, rfl, Nat.zero_le _, hheap, by omega, hc2, by simp [putCells, hc3], ?_⟩⟩
 apply List.ext_getElem?
 intro j
 rw [List.getElem?_take]
 by_cases hj : j < l'.length * 4
 ·rw [if_pos hj, flat_sN d' l' hd' j hj]
  have hjc : j < cur.size := by omega
  simp [putCells, hjc, hn', hj]
 ·rw [if_neg hj, List.getElem?_eq_none (by rw [flat_len ET]; omega)]
theorem sorted_sN {l : List St} {d d' : Array SN} (hd : d.toList.map SN.st = l) (hp : Go.Sort.PermIn 0 d.size d d') (hs : Go.Sort.SortedIn (ltOf cfS) 0 d.size d') :
  (d'.toList.map SN.st).Perm l ∧ (d'.toList.map SN.st).Pairwise (fun a b => kyS a ≤ kyS b) := by
 obtain ⟨h1, -, h2⟩ := hp
 constructor
 ·rw [← hd]
  have e1 : d'.extract 0 d.size = d' := by rw [← h1]; exact Array.extract_size
  have e2 : d.extract 0 d.size = d := Array.extract_size
  rw [e1, e2] at h2
  exact h2.map _
 ·rw [List.pairwise_map, List.pairwise_iff_getElem]
  intro i j hi hj hij
  have hi' : i < d'.size := by simpa using hi
  have hj' : j < d'.size := by simpa using hj
  have h3 := hs i j (Nat.zero_le _) hij (by omega)
  rw [lt_sN] at h3
  rw [getElem!_pos d' j hj', getElem!_pos d' i hi'] at h3
  simp only [decide_eq_false_iff_not] at h3
  simp only [Array.getElem_toList]
  omega
theorem SortFuncT (l : List St) (g c : Nat) (w : World) (hA : (ownB 43 4 (some ⟨g, 0, none⟩) l.length c (l.flatMap eT)).holds w) (hAf : ∀ b, (ownB 43 4 (some ⟨g, 0, none⟩) l.length c (l.flatMap eT)).foot b → b < w.heap.size) (hb : ∀ s ∈ l, bnd s) (hd : dis l) (hl : l.length ≤ 1000) :
  Calls Tryz.prog 119 #[.slice (some ⟨g, 0, none⟩) l.length c, .func (.func 120) #[] #[]] w (RetM (ownB 43 4 (some ⟨g, 0, none⟩) l.length c (l.flatMap eT)) (fun _ : Unit => True) (fun _ => .tuple #[]) (fun _ => ownB 43 4 (some ⟨g, 0, none⟩) (srt l).length c ((srt l).flatMap eT)) w) := by
 have hA' : w.ownsRow 0 43 4 (.slice (some ⟨g, 0, none⟩) l.length c) l.length (l.flatMap eT) := hA
 have hst := Wd.startM hA hAf
 rcases hA'.2 with ⟨h1, -⟩ | ⟨g', cap, cur, h1, -, hg, hlc, hcm, -⟩
 ·cases h1
 injection h1 with e1 _ e3
 injection e1 with e1
 injection e1 with e1
 subst e1 e3
 obtain ⟨d, hdd⟩ : ∃ d : Array SN, d.toList.map SN.st = l := ⟨(toSN l hb).toArray, toSN_val l hb⟩
 have hds : d.size = l.length := by rw [← hdd]; simp
 have eg : ∀ args w, (callFunc 120 args).run Tryz.prog w = .ok (.enter 120 args) w := enters_of Tryz.func120 (by kernel_rfl) rfl
 have hgl := (Array.getElem?_eq_some_iff.1 hg).1
 have h70 := AnyQ.slices_SortFunc Tryz.sortSt 4 (fun w => by kernel_rfl) (fun w => by kernel_rfl) encS (fun _ => rfl) (fun x v hv => ET.one x.1 v hv) cfS swo_sN 120 #[] g 0 c d w eg (fun _ _ _ _ x y => closure_sN x y _) (row_sN (m := 0) (os := #[]) hA' hdd hdd rfl).1 hgl (by omega)
 rw [hds] at h70
 refine h70.mono ?_
 rintro e w' ⟨rfl, d', n, os, hp, hs, rfl⟩
 have hsz : d'.size = d.size := hp.1
 rw [← hds] at hp hs
 obtain ⟨o1, o2⟩ := sorted_sN hdd hp hs
 have e := srt_uniq hb hd o1 o2
 have hrow := (row_sN (m := n) (os := os) hA' hdd e hsz).2
 have hgr := grown_sN (w := w) (g := g) (n := n) (os := os) d'
 refine ⟨(), trivial, rfl, hst.chg (At.here _) rfl rfl ⟨hgr.os, hgr.tape, hgr.output, hgr.size, fun b hb hn => hgr.block b hb (fun e => hn (by injection e with e; rw [← e]; rfl))⟩ hrow (fun b hb => ?_)⟩
 obtain rfl : g = b := by simpa [ownB, Value.ownBlock] using hb
 exact ⟨.inl rfl, Nat.lt_of_lt_of_le hgl hgr.size⟩

attribute [local irreducible] J JQ JL JA JD
set_option maxRecDepth 100000 in
set_option maxHeartbeats 4000000 in
theorem sortedT (l : List St) (v : Value) (w : World) (hrow : Arr 4 eT w v l) (hl : l.length ≤ 1000) (hb : ∀ s ∈ l, bnd s) (hd : dis l) : Calls Tryz.prog 74 #[v] w (RetS 43 4 eT (srt l) w) := by
 have hrow0 := hrow
 obtain ⟨A, cap, rfl, -, ⟨hl9, -⟩, hA⟩ := hrow
 have hsl := srt_len l
 refine J_enter (fun _ => False) (vs := [.slice A l.length cap]) (k := 9) (l := [(0, .slice A l.length cap)]) Tryz.func74 rfl rfl Tryz.ntmps74 rfl rfl (Wd.start _) ?_
 refine s7 ?_
 refine aW (ow_slice0 (k := 4) (ty := 43) rfl rfl rfl (fun _ => by kernel_rfl)) (fun b4 hb4 => ?_)
 refine s1 ?_
 refine aW (oAppG (sl := 24) ET ([] : List St) l (fun w hw => hrow0.up ET hw.bel) rfl (Nat.le_refl _) (hl := by rw [List.length_nil]; omega)) (fun t6 _ => ?_)
 obtain ⟨g6, c6⟩ := t6
 dsimp only
 rw [List.nil_append]
 refine s4 ?_
 refine kJ [(3, _)] ?_
 refine s2 ?_
 refine aW (oM (fun w hw => SortFuncT l g6 c6 w (hw.ok (ownB 43 4 (some ⟨g6, 0, none⟩) (l).length c6 ((l).flatMap eT)) (by repeat constructor)).1 (hw.newA (A := ownB 43 4 (some ⟨g6, 0, none⟩) (l).length c6 ((l).flatMap eT)) (by repeat constructor) rfl).2 hb hd hl)) (fun _ _ => ?_)
 refine s9 ?_
 refine JR_one rfl (rr_tmp rfl) ?_
 intro w' hw
 exact ⟨some ⟨g6, 0, none⟩, c6, by rw [hsl], hw.pick (by repeat constructor)⟩
end Go.Proofs.YtmcpnoailbmkkaaGreatDoor
/- Layer 7: CheckThrow. -/
namespace Go.Proofs.YtmcpnoailbmkkaaGreatDoor
open Go Go.RowKit Go.Proofs
attribute [local irreducible] J JQ JL JA JD

/-- A stone of a throw has a name that it may have. -/
def mayB (l : List St) (x : Th) (s : St) : Bool := (lookT l s.t s.n).isSome || eqK s.t s.n x.team x.n
theorem thr_no1 {l m : List St} {x : Th} (h : thrA l m x = false) : thrB l m x = false := by unfold thrB; rw [h]; rfl
theorem thr_no2 {l m : List St} {x : Th} {y : St} (h : lookT l x.team x.n = some y) : thrB l m x = false := by unfold thrB; rw [h]; simp
theorem thr_no3 {l m : List St} {x : Th} {k : Nat} (hk : k < m.length) (h : mayB l x (m[k]'hk) = false) : thrB l m x = false := by
 have : m.all (fun s => (lookT l s.t s.n).isSome || eqK s.t s.n x.team x.n) = false := by
  rw [← Bool.not_eq_true, List.all_eq_true]
  intro h1
  have := h1 _ (List.getElem_mem hk)
  unfold mayB at h
  rw [h] at this; cases this
 unfold thrB; rw [this]; simp
theorem thr_yes {l m : List St} {x : Th} (h : thrA l m x = true) (h2 : lookT l x.team x.n = none) (h3 : ∀ j (hj : j < m.length), mayB l x (m[j]'hj) = true) : thrB l m x = (!x.short || decide (srt l = srt m)) := by
 have h4 : m.all (fun s => (lookT l s.t s.n).isSome || eqK s.t s.n x.team x.n) = true := by
  rw [List.all_eq_true]
  intro s hs
  obtain ⟨j, hj, rfl⟩ := List.getElem_of_mem hs
  exact h3 j hj
 have h5 : eqL (srt l) (srt m) = decide (srt l = srt m) := by
  by_cases e : srt l = srt m
  ·rw [decide_eq_true e, (eqL_iff _ _).2 e]
  ·rw [decide_eq_false e, eqL_no e]
 unfold thrB; rw [h, h2, h4, h5]; rfl
abbrev Thv (x : Th) (A : Option Addr) (n c : Nat) : Value := .agg #[.int .i64 x.team, .int .i64 x.n, .bool x.late, .bool x.short, .int .i64 x.how, .slice A n c]
theorem bnd64 {s : St} (h : bnd s) : W64 s.t ∧ W64 s.n := by unfold bnd at h; unfold W64; omega
set_option maxRecDepth 100000 in
set_option maxHeartbeats 4000000 in
theorem CheckThrow_any (l m : List St) (x : Th) (v : Value) (A2 : Option Addr) (cap2 : Nat) (w : World) (hrow : Arr 4 eT w v l) (hrow2 : Arr 4 eT w (.slice A2 m.length cap2) m) : Calls Tryz.prog 26 #[v, Thv x A2 m.length cap2] w (Back (.bool (thrB l m x)) w) := by
 obtain ⟨xteam, xnn, xlate, xshort, xhow⟩ := x
 have hrow0 := hrow
 obtain ⟨A, cap, rfl, -, ⟨hl9, -⟩, hA⟩ := hrow
 have hrow20 := hrow2
 obtain ⟨A2', cap2', e2, -, ⟨hl92, -⟩, hA2⟩ := hrow2
 obtain ⟨rfl, -, rfl⟩ : A2 = A2' ∧ True ∧ cap2 = cap2' := by injection e2 with e1 _ e3; exact ⟨e1, trivial, e3⟩
 dsimp only [Thv]
 refine J_enter (fun _ => False) (vs := [.slice A l.length cap, .agg #[.int .i64 xteam, .int .i64 xnn, .bool xlate, .bool xshort, .int .i64 xhow, .slice A2 m.length cap2]]) (k := 86) (l := [(0, .slice A l.length cap), (1, .agg #[.int .i64 xteam, .int .i64 xnn, .bool xlate, .bool xshort, .int .i64 xhow, .slice A2 m.length cap2])]) Tryz.func26 rfl rfl Tryz.ntmps26 rfl rfl (Wd.start _) ?_
 refine s2 ?_
 refine aW (oX [_, _, _, _, _, _]) (fun b3 hb3 => ?_)
 refine s7 ?_
 refine aCB (fun w hw => Check_any l _ w (hrow0.up ET hw.bel)) ?_
 refine JL_bool (fun h14 => ?_) (fun h14 => ?_)
 ·refine s4 ?_
  refine aCB (fun w hw => Check_any m _ w (hrow20.up ET hw.bel)) ?_
  refine JL_bool (fun h19 => ?_) (fun h19 => ?_)
  ·refine s5 ?_
   refine aCB (fun w hw => rwithin _ _ _ w) ?_
   refine JL_dec (fun h25 => ?_) (fun h25 => ?_)
   ·refine s5 ?_
    refine aCB (fun w hw => rwithin _ _ _ w) ?_
    refine JL_dec (fun h31 => ?_) (fun h31 => ?_)
    ·refine s5 ?_
     refine aCB (fun w hw => rwithin _ _ _ w) ?_
     refine JL_dec (fun h37 => ?_) (fun h37 => ?_)
     ·refine s7 ?_
      have hA0 : thrA l m (⟨xteam, xnn, xlate, xshort, xhow⟩ : Th) = true := by unfold thrA; rw [h14, h19, decide_eq_true h25, decide_eq_true h31, decide_eq_true h37]; rfl
      have hbl := chk_bnd h14
      have hbm := chk_bnd h19
      have hdl := chk_dis h14
      have hdm := chk_dis h19
      have hl16 := (chk_facts h14).1
      have hm16 := (chk_facts h19).1
      have h640 : okN2 (xteam, xnn) := by unfold okN2 W64; dsimp only; omega
      refine xC (T := Nat × Nat) (fun q => True) (fun q => [(0, .slice A l.length cap), (3, .pointer (some ⟨b3, 0, none⟩)), (5, .pointer (some ⟨q.1, 0, none⟩)), (6, .map (some q.2))]) (fun q => [cellB b3 [.int .i64 xteam, .int .i64 xnn, .bool xlate, .bool xshort, .int .i64 xhow, .slice A2 m.length cap2] 26, cellB q.1 [.int .i64 xteam, .int .i64 xnn] 159, mapK Tryz.prog 159 43 kN okN2 dT q.2 l.length (tblF l)]) ?_ ?_
      ·refine kJ [(0, _), (3, _)] ?_
       refine xD [0, 1, 2, 3, 4, 5] [1, 3] ?_
       refine s4 ?_
       refine dP rfl (rp_buildC (fun us => [us.getD 0 undef, us.getD 1 undef]) rfl rfl (fun w => by kernel_rfl)) ?_
       refine s1 ?_
       refine dPair (i := 6) (j := 7) (by kernel_rfl) ?_ ?_
       ·refine St1_mk rfl wAny (oR (fun w hw => table_any l _ w (hrow0.up ET hw.bel) (fun s hs => bnd64 (hbl s hs)) (by omega))) (by first | exact trivial | exact ⟨by kernel_rfl, .inl (rfl : waitsB _ [] _ = true)⟩ | exact ⟨by kernel_rfl, .inr ⟨rfl, by repeat constructor⟩⟩) (fun b46 _ => ?_)
        refine dOA [7, 8, 9] ?_
        refine dW rfl oA (fun b5 hb5 => ?_)
        refine s3 ?_
        exact xE (b5, b46) trivial
       ·refine St1_mk rfl wAny oA (by first | exact trivial | exact ⟨by kernel_rfl, .inl (rfl : waitsB _ [] _ = true)⟩ | exact ⟨by kernel_rfl, .inr ⟨rfl, by repeat constructor⟩⟩) (fun b5 hb5 => ?_)
        refine dOA [6, 8, 9] ?_
        refine dW rfl (oR (fun w hw => table_any l _ w (hrow0.up ET hw.bel) (fun s hs => bnd64 (hbl s hs)) (by omega))) (fun b46 _ => ?_)
        refine s3 ?_
        exact xE (b5, b46) trivial
      ·rintro ⟨b5, b46⟩ -
       dsimp only
       refine s2 ?_
       rcases hr0 : tblF l (xteam, xnn) with _ | y0
       ·refine s3 ?_
        refine aV (rv_lookK2 KNR LSt (xteam, xnn) Und.h rfl rfl rfl (by repeat constructor) rfl h640 hr0) ?_
        refine s3 ?_
        refine aW oA (fun b7 hb7 => ?_)
        refine s5 ?_
        refine kJ [(0, _), (3, _), (5, _), (6, _), (8, _)] ?_
        refine s17 ?_
        refine xL (T := Nat) (fun k => k ≤ m.length ∧ ∀ j (hj : j < m.length), j < k → mayB l (⟨xteam, xnn, xlate, xshort, xhow⟩ : Th) (m[j]'hj) = true) (fun k => [(0, .slice A l.length cap), (3, .pointer (some ⟨b3, 0, none⟩)), (5, .pointer (some ⟨b5, 0, none⟩)), (6, .map (some b46)), (55, .slice A2 m.length cap2), (56, .int .i64 (m.length : Nat)), (57, .int .i64 (k : Nat))]) (fun k => [cellB b3 [.int .i64 xteam, .int .i64 xnn, .bool xlate, .bool xshort, .int .i64 xhow, .slice A2 m.length cap2] 26, cellB b5 [.int .i64 xteam, .int .i64 xnn] 159, mapK Tryz.prog 159 43 kN okN2 dT b46 l.length (tblF l)]) (fun k => m.length - k) 0 ⟨Nat.zero_le _, fun j _ h => absurd h (Nat.not_lt_zero _)⟩ ?_
        rintro k ⟨hk, hall0⟩
        refine s3 ?_
        refine JL_dec (fun h58 => ?_) (fun h58 => ?_)
        ·refine s9 ?_
         have hltx : k < m.length := by omega
         obtain ⟨bx, qx, rfl, hh2⟩ := hA2 (by intro e; subst e; simp at hltx)
         obtain ⟨⟨xt, xn, xx, xy⟩, hx⟩ : ∃ y, m[k]'hltx = y := ⟨_, rfl⟩
         have hmx : (⟨xt, xn, xx, xy⟩ : St) ∈ m := by rw [← hx]; exact List.getElem_mem _
         refine s2 ?_
         refine aV (vHoldA (cs := [.int .i64 xt, .int .i64 xn, .int .i64 xx, .int .i64 xy]) ET rfl rfl (fun h => h) hh2 hltx (by rw [hx]; rfl)) ?_
         refine aW oA (fun b10 hb10 => ?_)
         refine s4 ?_
         have h64x : okN2 (xt, xn) := bnd64 (hbm _ hmx)
         rcases hr1 : tblF l (xt, xn) with _ | y1
         ·refine s3 ?_
          refine aCB (fun w hw => of_any (⟨xt, xn, xx, xy⟩ : St) w) ?_
          refine aV (rv_lookK2 KNR LSt (xt, xn) Und.h rfl rfl rfl (by repeat constructor) rfl h64x hr1) ?_
          refine s3 ?_
          refine aW oA (fun b11 hb11 => ?_)
          refine s5 ?_
          refine kJ [(0, _), (3, _), (5, _), (6, _), (10, _), (12, _), (55, _), (56, _), (57, _)] ?_
          refine xD [0, 1, 2, 3, 5, 4, 6] [3, 5] ?_
          refine s5 ?_
          refine dCB rfl (fun w hw => of_any (⟨xt, xn, xx, xy⟩ : St) w) ?_
          refine dP rfl (pNeqN xt xn xteam xnn rfl rfl rfl) ?_
          refine dBool (fun h74 => ?_) (fun h74 => ?_)
          ·refine dO [7] ?_
           refine s5 ?_
           refine kJ [] ?_
           refine s10 ?_
           refine JR_one rfl (rr_tmp rfl) ?_
           intro w' hw
           exact ⟨by rw [thr_no3 (x := (⟨xteam, xnn, xlate, xshort, xhow⟩ : Th)) (k := k) hltx (by unfold mayB; rw [hx]; dsimp only; unfold tblF at hr1; dsimp only at hr1; rw [hr1]; cases h0 : eqK xt xn xteam xnn with | true => rw [h0] at h74; cases h74 | false => rfl)], hw.bel⟩
          ·refine dO [7] ?_
           refine s7 ?_
           refine kJ [(0, _), (3, _), (5, _), (6, _), (55, _), (56, _), (57, _)] ?_
           refine s4 ?_
           have hn : ∀ j (hj : j < m.length), j < k + 1 → mayB l (⟨xteam, xnn, xlate, xshort, xhow⟩ : Th) (m[j]'hj) = true := fun j hj hjk => by
            rcases Nat.lt_or_ge j k with h | h
            ·exact hall0 j hj h
            ·obtain rfl : j = k := by omega
             rw [hx]; unfold mayB; dsimp only; cases h0 : eqK xt xn xteam xnn with | true => simp | false => rw [h0] at h74; cases h74
           exact xR (k + 1) ⟨by omega, hn⟩ (by omega) (hl := ⟨rfl, rfl, rfl, rfl, rfl, rfl, (congrArg some (by go_num)), trivial⟩)
         ·refine s3 ?_
          refine aCB (fun w hw => of_any (⟨xt, xn, xx, xy⟩ : St) w) ?_
          refine aV (rv_lookK2 KNR LSt (xt, xn) Und.h rfl rfl rfl (by repeat constructor) rfl h64x hr1) ?_
          refine s3 ?_
          refine aW oA (fun b11 hb11 => ?_)
          refine s5 ?_
          refine kJ [(0, _), (3, _), (5, _), (6, _), (10, _), (12, _), (55, _), (56, _), (57, _)] ?_
          refine xD [0, 1, 2, 3, 4, 5, 6, 7] [3, 5] ?_
          refine s14 ?_
          refine kJ [(0, _), (3, _), (5, _), (6, _), (55, _), (56, _), (57, _)] ?_
          refine s4 ?_
          have hn : ∀ j (hj : j < m.length), j < k + 1 → mayB l (⟨xteam, xnn, xlate, xshort, xhow⟩ : Th) (m[j]'hj) = true := fun j hj hjk => by
           rcases Nat.lt_or_ge j k with h | h
           ·exact hall0 j hj h
           ·obtain rfl : j = k := by omega
            rw [hx]; unfold mayB; unfold tblF at hr1; dsimp only at hr1; rw [hr1]; rfl
          exact xR (k + 1) ⟨by omega, hn⟩ (by omega) (hl := ⟨rfl, rfl, rfl, rfl, rfl, rfl, (congrArg some (by go_num)), trivial⟩)
        ·refine s10 ?_
         have hall : ∀ j (hj : j < m.length), mayB l (⟨xteam, xnn, xlate, xshort, xhow⟩ : Th) (m[j]'hj) = true := fun j hj => hall0 j hj (by omega)
         refine kJ [(0, _), (3, _)] ?_
         refine xD [0, 1] [1, 7] ?_
         refine s2 ?_
         refine dBool (fun h78 => ?_) (fun h78 => ?_)
         ·refine dO [2, 3, 4, 6, 7, 5, 8, 9, 10, 11] ?_
          refine s5 ?_
          refine dS rfl (oS (fun w hw => sortedT l _ w (hrow0.up ET hw.bel) (by omega) hbl hdl)) (fun A82 c82 => ?_)
          refine dS rfl (oS (fun w hw => sortedT m _ w (hrow20.up ET hw.bel) (by omega) hbm hdm)) (fun A85 c85 => ?_)
          refine dCB rfl (fun w hw => EqualT (srt l) (srt m) _ _ w (own_arr (A := A82) (c := c82) ET hw (by repeat constructor) (by rw [srt_len]; omega)) (own_arr (A := A85) (c := c85) ET hw (by repeat constructor) (by rw [srt_len]; omega))) ?_
          refine s5 ?_
          refine JR_one rfl (rr_tmp rfl) ?_
          intro w' hw
          obtain rfl : k = m.length := by omega
          exact ⟨by rw [thr_yes (x := (⟨xteam, xnn, xlate, xshort, xhow⟩ : Th)) hA0 hr0 hall]; dsimp only; rw [h78]; rfl, hw.bel⟩
         ·refine dO [2, 3, 4, 5, 6, 7, 8, 9, 10, 11] ?_
          refine s13 ?_
          refine JR_one rfl (rr_tmp rfl) ?_
          intro w' hw
          obtain rfl : k = m.length := by omega
          exact ⟨by rw [thr_yes (x := (⟨xteam, xnn, xlate, xshort, xhow⟩ : Th)) hA0 hr0 hall]; dsimp only; rw [h78]; rfl, hw.bel⟩
       ·refine s3 ?_
        refine aV (rv_lookK2 KNR LSt (xteam, xnn) Und.h rfl rfl rfl (by repeat constructor) rfl h640 hr0) ?_
        refine s3 ?_
        refine aW oA (fun b7 hb7 => ?_)
        refine s5 ?_
        refine kJ [(0, _), (3, _), (5, _), (6, _), (8, _)] ?_
        refine s6 ?_
        refine kJ [] ?_
        refine s6 ?_
        refine JR_one rfl (rr_tmp rfl) ?_
        intro w' hw
        exact ⟨by rw [thr_no2 (x := (⟨xteam, xnn, xlate, xshort, xhow⟩ : Th)) (y := y0) hr0], hw.bel⟩
     ·refine s6 ?_
      refine kJ [] ?_
      refine s6 ?_
      refine JR_one rfl (rr_tmp rfl) ?_
      intro w' hw
      exact ⟨by rw [thr_no1 (by unfold thrA; rw [decide_eq_false h37]; simp)], hw.bel⟩
    ·refine s12 ?_
     refine kJ [] ?_
     refine s6 ?_
     refine JR_one rfl (rr_tmp rfl) ?_
     intro w' hw
     exact ⟨by rw [thr_no1 (by unfold thrA; rw [decide_eq_false h31]; simp)], hw.bel⟩
   ·refine s18 ?_
    refine kJ [] ?_
    refine s6 ?_
    refine JR_one rfl (rr_tmp rfl) ?_
    intro w' hw
    exact ⟨by rw [thr_no1 (by unfold thrA; rw [decide_eq_false h25]; simp)], hw.bel⟩
  ·refine s24 ?_
   refine kJ [] ?_
   refine s6 ?_
   refine JR_one rfl (rr_tmp rfl) ?_
   intro w' hw
   exact ⟨by rw [thr_no1 (by unfold thrA; rw [h19]; simp)], hw.bel⟩
 ·refine s29 ?_
  refine kJ [] ?_
  refine s6 ?_
  refine JR_one rfl (rr_tmp rfl) ?_
  intro w' hw
  exact ⟨by rw [thr_no1 (by unfold thrA; rw [h14]; simp)], hw.bel⟩
end Go.Proofs.YtmcpnoailbmkkaaGreatDoor
/- Layer 7: seen; the lines. -/
namespace Go.Proofs.YtmcpnoailbmkkaaGreatDoor
open Go Go.RowKit Go.Proofs
attribute [local irreducible] J JQ JL JA JD

/-- What happened, in memory. -/
abbrev evC (x : Th) (A : Option Addr) (n c : Nat) (rm mv sf : Bool) : List Value := [.int .i64 x.team, .int .i64 x.n, .bool x.late, .bool x.short, .int .i64 x.how, .slice A n c, .bool rm, .bool mv, .bool sf]
abbrev Evv (x : Th) (A : Option Addr) (n c : Nat) (rm mv sf : Bool) : Value := .agg #[.int .i64 x.team, .int .i64 x.n, .bool x.late, .bool x.short, .int .i64 x.how, .slice A n c, .bool rm, .bool mv, .bool sf]
theorem rem_s1 {c : Cd} {n team : Int} {m l : List St} {k : Nat} (h : k < l.length) (h1 : remB c n team m (l.take k) = true) : remB c n team m (l.take (k + 1)) = true := by rw [remB_step c n team m h, h1]; rfl
theorem rem_s2 {c : Cd} {n team : Int} {m l : List St} {k : Nat} {x y : St} (h : k < l.length) (hx : l[k]'h = x) (h1 : remB c n team m (l.take k) = false) (h2 : tblF m (x.t, x.n) = some y) : remB c n team m (l.take (k + 1)) = false := by
 unfold tblF at h2; dsimp only at h2
 rw [remB_step c n team m h, h1, hx, h2]; rfl
theorem rem_s3 {c : Cd} {n team : Int} {m l : List St} {k : Nat} {x : St} (h : k < l.length) (hx : l[k]'h = x) (h1 : remB c n team m (l.take k) = false) (h2 : tblF m (x.t, x.n) = none) : remB c n team m (l.take (k + 1)) = kpB c n team x := by
 unfold tblF at h2; dsimp only at h2
 rw [remB_step c n team m h, h1, hx, h2]; simp
theorem mov_s1 {c : Cd} {n team : Int} {m l : List St} {k : Nat} (h : k < l.length) (h1 : movB c n team m (l.take k) = true) : movB c n team m (l.take (k + 1)) = true := by rw [movB_step c n team m h, h1]; rfl
theorem mov_s2 {c : Cd} {n team : Int} {m l : List St} {k : Nat} {x : St} (h : k < l.length) (hx : l[k]'h = x) (h1 : movB c n team m (l.take k) = false) (h2 : tblF m (x.t, x.n) = none) : movB c n team m (l.take (k + 1)) = false := by
 unfold tblF at h2; dsimp only at h2
 rw [movB_step c n team m h, h1, hx, h2]; rfl
theorem mov_s3 {c : Cd} {n team : Int} {m l : List St} {k : Nat} {x : St} (h : k < l.length) (hx : l[k]'h = x) (h1 : movB c n team m (l.take k) = false) (h2 : fxB c n team x = false) : movB c n team m (l.take (k + 1)) = false := by
 rw [movB_step c n team m h, h1, hx, h2]; simp
theorem mov_s4 {c : Cd} {n team : Int} {m l : List St} {k : Nat} {x y : St} (h : k < l.length) (hx : l[k]'h = x) (h1 : movB c n team m (l.take k) = false) (h2 : fxB c n team x = true) (h3 : tblF m (x.t, x.n) = some y) : movB c n team m (l.take (k + 1)) = !cen y := by
 unfold tblF at h3; dsimp only at h3
 rw [movB_step c n team m h, h1, hx, h2, h3]; simp
set_option maxRecDepth 100000 in
set_option maxHeartbeats 4000000 in
theorem seen_any (c : Cd) (n team : Int) (l m : List St) (x : Th) (v : Value) (A2 : Option Addr) (cap2 : Nat) (w : World) (hrow : Arr 4 eT w v l) (hrow2 : Arr 4 eT w (.slice A2 m.length cap2) m) (hok : ∀ s ∈ l, W64 s.t ∧ W64 s.n) (hokm : ∀ s ∈ m, W64 s.t ∧ W64 s.n) (hm9 : m.length ≤ 1000) : Calls Tryz.prog 75 #[Tnv c n team, v, Thv x A2 m.length cap2] w (Back (Evv x A2 m.length cap2 (remB c n team m l) (movB c n team m l) (decide (n < c.s))) w) := by
 obtain ⟨kf, kt, ks, ke, kp⟩ := c
 obtain ⟨xteam, xnn, xlate, xshort, xhow⟩ := x
 have hrow0 := hrow
 obtain ⟨A, cap, rfl, -, ⟨hl9, -⟩, hA⟩ := hrow
 have hrow20 := hrow2
 dsimp only [Thv, Tnv]
 refine J_enter (fun _ => False) (vs := [.agg #[.int .i64 kf, .int .i64 kt, .int .i64 ks, .int .i64 ke, .bool kp, .int .i64 n, .int .i64 team], .slice A l.length cap, .agg #[.int .i64 xteam, .int .i64 xnn, .bool xlate, .bool xshort, .int .i64 xhow, .slice A2 m.length cap2]]) (k := 64) (l := [(0, .agg #[.int .i64 kf, .int .i64 kt, .int .i64 ks, .int .i64 ke, .bool kp, .int .i64 n, .int .i64 team]), (1, .slice A l.length cap), (2, .agg #[.int .i64 xteam, .int .i64 xnn, .bool xlate, .bool xshort, .int .i64 xhow, .slice A2 m.length cap2])]) Tryz.func75 rfl rfl Tryz.ntmps75 rfl rfl (Wd.start _) ?_
 refine s2 ?_
 refine aW (oX [_, _, _, _, _, _, _]) (fun b3 hb3 => ?_)
 refine aW (oX [_, _, _, _, _, _]) (fun b5 hb5 => ?_)
 refine aW oA (fun b6 hb6 => ?_)
 refine s11 ?_
 refine aP (rp_buildC (fun us => [us.getD 0 undef, .bool false, .bool false, us.getD 1 undef]) rfl rfl (fun w => by kernel_rfl)) ?_
 refine aW oA (fun b7 hb7 => ?_)
 refine aW0 (wStore (cs := [_, _, _, _, _, _, _, _, _]) rfl rfl rfl rfl rfl rfl rfl (by repeat constructor) rfl rfl) ?_
 refine s3 ?_
 refine kJ [(1, _), (3, _), (5, _), (6, _), (7, _)] ?_
 refine s3 ?_
 refine aW (oR (fun w hw => table_any m _ w (hrow20.up ET hw.bel) hokm hm9)) (fun b23 _ => ?_)
 refine s5 ?_
 refine kJ [(1, _), (3, _), (6, _), (7, _), (8, _)] ?_
 refine s7 ?_
 refine xL (T := Nat) (fun k => k ≤ l.length) (fun k => [(3, .pointer (some ⟨b3, 0, none⟩)), (6, .pointer (some ⟨b6, 0, none⟩)), (7, .pointer (some ⟨b7, 0, none⟩)), (8, .map (some b23)), (24, .slice A l.length cap), (25, .int .i64 (l.length : Nat)), (26, .int .i64 (k : Nat))]) (fun k => [cellB b3 [.int .i64 kf, .int .i64 kt, .int .i64 ks, .int .i64 ke, .bool kp, .int .i64 n, .int .i64 team] 100, cellB b6 (evC ⟨0, 0, false, false, 0⟩ none 0 0 false false false) 167, cellB b7 (evC (⟨xteam, xnn, xlate, xshort, xhow⟩ : Th) A2 m.length cap2 (remB (⟨kf, kt, ks, ke, kp⟩ : Cd) n team m (l.take k)) (movB (⟨kf, kt, ks, ke, kp⟩ : Cd) n team m (l.take k)) (decide (n < ks))) 167, mapK Tryz.prog 159 43 kN okN2 dT b23 m.length (tblF m)]) (fun k => l.length - k) 0 (Nat.zero_le _) ?_ (hH := by (try dsimp only); rw [show remB (⟨kf, kt, ks, ke, kp⟩ : Cd) n team m (l.take 0) = false from rfl, show movB (⟨kf, kt, ks, ke, kp⟩ : Cd) n team m (l.take 0) = false from rfl]; repeat constructor)
 rintro k hk
 refine s3 ?_
 refine JL_dec (fun h27 => ?_) (fun h27 => ?_)
 ·refine s9 ?_
  have hltx : k < l.length := by omega
  obtain ⟨bx, qx, rfl, hh⟩ := hA (by intro e; subst e; simp at hltx)
  obtain ⟨⟨xt, xn, xx, xy⟩, hx⟩ : ∃ y, l[k]'hltx = y := ⟨_, rfl⟩
  have hmx : (⟨xt, xn, xx, xy⟩ : St) ∈ l := by rw [← hx]; exact List.getElem_mem _
  refine s2 ?_
  refine aV (vHoldA (cs := [.int .i64 xt, .int .i64 xn, .int .i64 xx, .int .i64 xy]) ET rfl rfl (fun h => h) hh hltx (by rw [hx]; rfl)) ?_
  refine aW oA (fun b10 hb10 => ?_)
  refine s4 ?_
  have h64x : okN2 (xt, xn) := hok _ hmx
  rcases hr1 : tblF m (xt, xn) with _ | ⟨yt, yn, yx, yy⟩
  ·refine s3 ?_
   refine aCB (fun w hw => of_any (⟨xt, xn, xx, xy⟩ : St) w) ?_
   refine aV (rv_lookK2 KNR LSt (xt, xn) Und.h rfl rfl rfl (by repeat constructor) rfl h64x hr1) ?_
   refine s3 ?_
   refine aW oA (fun b11 hb11 => ?_)
   refine s5 ?_
   refine kJ [(3, _), (6, _), (7, _), (8, _), (10, _), (11, _), (12, _), (24, _), (25, _), (26, _)] ?_
   refine s3 ?_
   refine JL_bool (fun h38 => ?_) (fun h38 => ?_)
   ·have hrm := h38
    refine s13 ?_
    refine kJ [(3, _), (6, _), (7, _), (8, _), (10, _), (11, _), (12, _), (24, _), (25, _), (26, _)] ?_
    refine s3 ?_
    refine JL_bool (fun h50 => ?_) (fun h50 => ?_)
    ·have hmv := h50
     refine s18 ?_
     refine kJ [(3, _), (6, _), (7, _), (8, _), (24, _), (25, _), (26, _)] ?_
     refine s4 ?_
     have hs1 := rem_s1 hltx hrm
     have hs2 := mov_s1 hltx hmv
     (try dsimp only at hs1 hs2)
     exact xR (k + 1) (by omega) (by omega) (hl := ⟨rfl, rfl, rfl, rfl, rfl, rfl, (congrArg some (by go_num)), trivial⟩) (hH := by (try dsimp only); rw [hs1, hs2]; repeat constructor)
    ·have hmv := h50
     refine s18 ?_
     refine kJ [(3, _), (6, _), (7, _), (8, _), (24, _), (25, _), (26, _)] ?_
     refine s4 ?_
     have hs1 := rem_s1 hltx hrm
     have hs2 := mov_s2 hltx hx hmv hr1
     (try dsimp only at hs1 hs2)
     exact xR (k + 1) (by omega) (by omega) (hl := ⟨rfl, rfl, rfl, rfl, rfl, rfl, (congrArg some (by go_num)), trivial⟩) (hH := by (try dsimp only); rw [hs1, hs2]; repeat constructor)
   ·have hrm := h38
    refine s6 ?_
    refine aCB (fun w hw => keeps_any (⟨kf, kt, ks, ke, kp⟩ : Cd) n team (⟨xt, xn, xx, xy⟩ : St) w) ?_
    refine s6 ?_
    refine kJ [(3, _), (6, _), (7, _), (8, _), (10, _), (11, _), (12, _), (24, _), (25, _), (26, _)] ?_
    refine s3 ?_
    refine JL_bool (fun h50 => ?_) (fun h50 => ?_)
    ·have hmv := h50
     refine s18 ?_
     refine kJ [(3, _), (6, _), (7, _), (8, _), (24, _), (25, _), (26, _)] ?_
     refine s4 ?_
     have hs1 := rem_s3 hltx hx hrm hr1
     have hs2 := mov_s1 hltx hmv
     (try dsimp only at hs1 hs2)
     exact xR (k + 1) (by omega) (by omega) (hl := ⟨rfl, rfl, rfl, rfl, rfl, rfl, (congrArg some (by go_num)), trivial⟩) (hH := by (try dsimp only); rw [hs1, hs2]; repeat constructor)
    ·have hmv := h50
     refine s18 ?_
     refine kJ [(3, _), (6, _), (7, _), (8, _), (24, _), (25, _), (26, _)] ?_
     refine s4 ?_
     have hs1 := rem_s3 hltx hx hrm hr1
     have hs2 := mov_s2 hltx hx hmv hr1
     (try dsimp only at hs1 hs2)
     exact xR (k + 1) (by omega) (by omega) (hl := ⟨rfl, rfl, rfl, rfl, rfl, rfl, (congrArg some (by go_num)), trivial⟩) (hH := by (try dsimp only); rw [hs1, hs2]; repeat constructor)
  ·refine s3 ?_
   refine aCB (fun w hw => of_any (⟨xt, xn, xx, xy⟩ : St) w) ?_
   refine aV (rv_lookK2 KNR LSt (xt, xn) Und.h rfl rfl rfl (by repeat constructor) rfl h64x hr1) ?_
   refine s3 ?_
   refine aW oA (fun b11 hb11 => ?_)
   refine s5 ?_
   refine kJ [(3, _), (6, _), (7, _), (8, _), (10, _), (11, _), (12, _), (24, _), (25, _), (26, _)] ?_
   refine s3 ?_
   refine JL_bool (fun h38 => ?_) (fun h38 => ?_)
   ·have hrm := h38
    refine s13 ?_
    refine kJ [(3, _), (6, _), (7, _), (8, _), (10, _), (11, _), (12, _), (24, _), (25, _), (26, _)] ?_
    refine s3 ?_
    refine JL_bool (fun h50 => ?_) (fun h50 => ?_)
    ·have hmv := h50
     refine s18 ?_
     refine kJ [(3, _), (6, _), (7, _), (8, _), (24, _), (25, _), (26, _)] ?_
     refine s4 ?_
     have hs1 := rem_s1 hltx hrm
     have hs2 := mov_s1 hltx hmv
     (try dsimp only at hs1 hs2)
     exact xR (k + 1) (by omega) (by omega) (hl := ⟨rfl, rfl, rfl, rfl, rfl, rfl, (congrArg some (by go_num)), trivial⟩) (hH := by (try dsimp only); rw [hs1, hs2]; repeat constructor)
    ·have hmv := h50
     refine s5 ?_
     refine aCB (fun w hw => fixes_any (⟨kf, kt, ks, ke, kp⟩ : Cd) n team (⟨xt, xn, xx, xy⟩ : St) w) ?_
     refine JL_bool (fun h56 => ?_) (fun h56 => ?_)
     ·refine s3 ?_
      refine aCB (fun w hw => central_any ⟨yt, yn, yx, yy⟩ w) ?_
      refine s8 ?_
      refine kJ [(3, _), (6, _), (7, _), (8, _), (24, _), (25, _), (26, _)] ?_
      refine s4 ?_
      have hs1 := rem_s1 hltx hrm
      have hs2 := mov_s4 hltx hx hmv h56 hr1
      (try dsimp only at hs1 hs2)
      exact xR (k + 1) (by omega) (by omega) (hl := ⟨rfl, rfl, rfl, rfl, rfl, rfl, (congrArg some (by go_num)), trivial⟩) (hH := by (try dsimp only); rw [hs1, hs2]; repeat constructor)
     ·refine s12 ?_
      refine kJ [(3, _), (6, _), (7, _), (8, _), (24, _), (25, _), (26, _)] ?_
      refine s4 ?_
      have hs1 := rem_s1 hltx hrm
      have hs2 := mov_s3 hltx hx hmv h56
      (try dsimp only at hs1 hs2)
      exact xR (k + 1) (by omega) (by omega) (hl := ⟨rfl, rfl, rfl, rfl, rfl, rfl, (congrArg some (by go_num)), trivial⟩) (hH := by (try dsimp only); rw [hs1, hs2]; repeat constructor)
   ·have hrm := h38
    refine s13 ?_
    refine kJ [(3, _), (6, _), (7, _), (8, _), (10, _), (11, _), (12, _), (24, _), (25, _), (26, _)] ?_
    refine s3 ?_
    refine JL_bool (fun h50 => ?_) (fun h50 => ?_)
    ·have hmv := h50
     refine s18 ?_
     refine kJ [(3, _), (6, _), (7, _), (8, _), (24, _), (25, _), (26, _)] ?_
     refine s4 ?_
     have hs1 := rem_s2 hltx hx hrm hr1
     have hs2 := mov_s1 hltx hmv
     (try dsimp only at hs1 hs2)
     exact xR (k + 1) (by omega) (by omega) (hl := ⟨rfl, rfl, rfl, rfl, rfl, rfl, (congrArg some (by go_num)), trivial⟩) (hH := by (try dsimp only); rw [hs1, hs2]; repeat constructor)
    ·have hmv := h50
     refine s5 ?_
     refine aCB (fun w hw => fixes_any (⟨kf, kt, ks, ke, kp⟩ : Cd) n team (⟨xt, xn, xx, xy⟩ : St) w) ?_
     refine JL_bool (fun h56 => ?_) (fun h56 => ?_)
     ·refine s3 ?_
      refine aCB (fun w hw => central_any ⟨yt, yn, yx, yy⟩ w) ?_
      refine s8 ?_
      refine kJ [(3, _), (6, _), (7, _), (8, _), (24, _), (25, _), (26, _)] ?_
      refine s4 ?_
      have hs1 := rem_s2 hltx hx hrm hr1
      have hs2 := mov_s4 hltx hx hmv h56 hr1
      (try dsimp only at hs1 hs2)
      exact xR (k + 1) (by omega) (by omega) (hl := ⟨rfl, rfl, rfl, rfl, rfl, rfl, (congrArg some (by go_num)), trivial⟩) (hH := by (try dsimp only); rw [hs1, hs2]; repeat constructor)
     ·refine s12 ?_
      refine kJ [(3, _), (6, _), (7, _), (8, _), (24, _), (25, _), (26, _)] ?_
      refine s4 ?_
      have hs1 := rem_s2 hltx hx hrm hr1
      have hs2 := mov_s3 hltx hx hmv h56
      (try dsimp only at hs1 hs2)
      exact xR (k + 1) (by omega) (by omega) (hl := ⟨rfl, rfl, rfl, rfl, rfl, rfl, (congrArg some (by go_num)), trivial⟩) (hH := by (try dsimp only); rw [hs1, hs2]; repeat constructor)
 ·refine s10 ?_
  refine kJ [(6, _), (7, _)] ?_
  refine s1 ?_
  refine aV (vAgg [_, _, _, _, _, _, _, _, _] rfl rfl rfl (by repeat constructor) rfl) ?_
  refine aW0 (wStore (cs := [_, _, _, _, _, _, _, _, _]) rfl rfl rfl rfl rfl rfl rfl (by repeat constructor) rfl rfl) ?_
  refine s3 ?_
  refine JR_one rfl (rr_agg (cs := [_, _, _, _, _, _, _, _, _]) rfl Agg.h (Siz.h (k := 9)) (by repeat constructor) (by rfl)) ?_
  intro w' hw
  obtain rfl : k = l.length := by omega
  rw [List.take_length] at *
  exact ⟨rfl, hw.bel⟩
set_option maxRecDepth 100000 in
set_option maxHeartbeats 4000000 in
theorem line123 (x : Th) (A2 : Option Addr) (m : List St) (cap2 : Nat) (rm mv sf : Bool) (w : World) : Calls Tryz.prog 123 #[Evv x A2 m.length cap2 rm mv sf] w (Back (.bool x.late) w) := by
 obtain ⟨xteam, xnn, xlate, xshort, xhow⟩ := x
 refine J_enter (fun _ => False) (vs := [.agg #[.int .i64 xteam, .int .i64 xnn, .bool xlate, .bool xshort, .int .i64 xhow, .slice A2 m.length cap2, .bool rm, .bool mv, .bool sf]]) (k := 5) (l := [(0, .agg #[.int .i64 xteam, .int .i64 xnn, .bool xlate, .bool xshort, .int .i64 xhow, .slice A2 m.length cap2, .bool rm, .bool mv, .bool sf])]) Tryz.func123 rfl rfl Tryz.ntmps123 rfl rfl (Wd.start _) ?_
 refine s2 ?_
 refine aW (oX [_, _, _, _, _, _, _, _, _]) (fun b1 hb1 => ?_)
 refine s12 ?_
 refine JR_one rfl (rr_tmp rfl) ?_
 intro w' hw
 exact ⟨rfl, hw.bel⟩
set_option maxRecDepth 100000 in
set_option maxHeartbeats 4000000 in
theorem line124 (x : Th) (A2 : Option Addr) (m : List St) (cap2 : Nat) (rm mv sf : Bool) (w : World) : Calls Tryz.prog 124 #[Evv x A2 m.length cap2 rm mv sf] w (Back (.bool x.short) w) := by
 obtain ⟨xteam, xnn, xlate, xshort, xhow⟩ := x
 refine J_enter (fun _ => False) (vs := [.agg #[.int .i64 xteam, .int .i64 xnn, .bool xlate, .bool xshort, .int .i64 xhow, .slice A2 m.length cap2, .bool rm, .bool mv, .bool sf]]) (k := 5) (l := [(0, .agg #[.int .i64 xteam, .int .i64 xnn, .bool xlate, .bool xshort, .int .i64 xhow, .slice A2 m.length cap2, .bool rm, .bool mv, .bool sf])]) Tryz.func124 rfl rfl Tryz.ntmps124 rfl rfl (Wd.start _) ?_
 refine s2 ?_
 refine aW (oX [_, _, _, _, _, _, _, _, _]) (fun b1 hb1 => ?_)
 refine s12 ?_
 refine JR_one rfl (rr_tmp rfl) ?_
 intro w' hw
 exact ⟨rfl, hw.bel⟩
set_option maxRecDepth 100000 in
set_option maxHeartbeats 4000000 in
theorem line125 (x : Th) (A2 : Option Addr) (m : List St) (cap2 : Nat) (rm mv sf : Bool) (w : World) : Calls Tryz.prog 125 #[Evv x A2 m.length cap2 rm mv sf] w (Back (.bool (rm && !sf)) w) := by
 obtain ⟨xteam, xnn, xlate, xshort, xhow⟩ := x
 refine J_enter (fun _ => False) (vs := [.agg #[.int .i64 xteam, .int .i64 xnn, .bool xlate, .bool xshort, .int .i64 xhow, .slice A2 m.length cap2, .bool rm, .bool mv, .bool sf]]) (k := 9) (l := [(0, .agg #[.int .i64 xteam, .int .i64 xnn, .bool xlate, .bool xshort, .int .i64 xhow, .slice A2 m.length cap2, .bool rm, .bool mv, .bool sf])]) Tryz.func125 rfl rfl Tryz.ntmps125 rfl rfl (Wd.start _) ?_
 refine s2 ?_
 refine aW (oX [_, _, _, _, _, _, _, _, _]) (fun b1 hb1 => ?_)
 refine s7 ?_
 refine JL_bool (fun h4 => ?_) (fun h4 => ?_)
 ·refine s9 ?_
  refine JR_one rfl (rr_tmp rfl) ?_
  intro w' hw
  exact ⟨by rw [h4]; first | rfl | simp, hw.bel⟩
 ·refine s9 ?_
  refine JR_one rfl (rr_tmp rfl) ?_
  intro w' hw
  exact ⟨by rw [h4]; first | rfl | simp, hw.bel⟩
set_option maxRecDepth 100000 in
set_option maxHeartbeats 4000000 in
theorem line126 (x : Th) (A2 : Option Addr) (m : List St) (cap2 : Nat) (rm mv sf : Bool) (w : World) : Calls Tryz.prog 126 #[Evv x A2 m.length cap2 rm mv sf] w (Back (.bool rm) w) := by
 obtain ⟨xteam, xnn, xlate, xshort, xhow⟩ := x
 refine J_enter (fun _ => False) (vs := [.agg #[.int .i64 xteam, .int .i64 xnn, .bool xlate, .bool xshort, .int .i64 xhow, .slice A2 m.length cap2, .bool rm, .bool mv, .bool sf]]) (k := 4) (l := [(0, .agg #[.int .i64 xteam, .int .i64 xnn, .bool xlate, .bool xshort, .int .i64 xhow, .slice A2 m.length cap2, .bool rm, .bool mv, .bool sf])]) Tryz.func126 rfl rfl Tryz.ntmps126 rfl rfl (Wd.start _) ?_
 refine s2 ?_
 refine aW (oX [_, _, _, _, _, _, _, _, _]) (fun b1 hb1 => ?_)
 refine s11 ?_
 refine JR_one rfl (rr_tmp rfl) ?_
 intro w' hw
 exact ⟨rfl, hw.bel⟩
set_option maxRecDepth 100000 in
set_option maxHeartbeats 4000000 in
theorem line127 (x : Th) (A2 : Option Addr) (m : List St) (cap2 : Nat) (rm mv sf : Bool) (w : World) : Calls Tryz.prog 127 #[Evv x A2 m.length cap2 rm mv sf] w (Back (.bool mv) w) := by
 obtain ⟨xteam, xnn, xlate, xshort, xhow⟩ := x
 refine J_enter (fun _ => False) (vs := [.agg #[.int .i64 xteam, .int .i64 xnn, .bool xlate, .bool xshort, .int .i64 xhow, .slice A2 m.length cap2, .bool rm, .bool mv, .bool sf]]) (k := 4) (l := [(0, .agg #[.int .i64 xteam, .int .i64 xnn, .bool xlate, .bool xshort, .int .i64 xhow, .slice A2 m.length cap2, .bool rm, .bool mv, .bool sf])]) Tryz.func127 rfl rfl Tryz.ntmps127 rfl rfl (Wd.start _) ?_
 refine s2 ?_
 refine aW (oX [_, _, _, _, _, _, _, _, _]) (fun b1 hb1 => ?_)
 refine s11 ?_
 refine JR_one rfl (rr_tmp rfl) ?_
 intro w' hw
 exact ⟨rfl, hw.bel⟩
set_option maxRecDepth 100000 in
set_option maxHeartbeats 4000000 in
theorem line122 (b : Nat) (how : Int) (x : Th) (A2 : Option Addr) (m : List St) (cap2 : Nat) (rm mv sf : Bool) (w : World) (hc : (cellB b [.int .i64 how] 3).holds w) : Calls Tryz.prog 122 #[Evv x A2 m.length cap2 rm mv sf, .pointer (some ⟨b, 0, none⟩)] w (Back (.bool (decide (x.how = how))) w) := by
 obtain ⟨xteam, xnn, xlate, xshort, xhow⟩ := x
 refine J_enter (fun _ => False) (vs := [.agg #[.int .i64 xteam, .int .i64 xnn, .bool xlate, .bool xshort, .int .i64 xhow, .slice A2 m.length cap2, .bool rm, .bool mv, .bool sf], .pointer (some ⟨b, 0, none⟩)]) (k := 7) (l := [(0, .agg #[.int .i64 xteam, .int .i64 xnn, .bool xlate, .bool xshort, .int .i64 xhow, .slice A2 m.length cap2, .bool rm, .bool mv, .bool sf]), (1, .pointer (some ⟨b, 0, none⟩))]) Tryz.func122 rfl rfl Tryz.ntmps122 rfl rfl (Wd.start _) ?_
 refine s2 ?_
 refine aW (oX [_, _, _, _, _, _, _, _, _]) (fun b2 hb2 => ?_)
 refine s8 ?_
 refine aV (vOld rfl rfl (fun h => h) (cellB_get hc rfl)) ?_
 refine s5 ?_
 refine JR_one rfl (rr_tmp rfl) ?_
 intro w' hw
 exact ⟨rfl, hw.bel⟩
set_option maxRecDepth 100000 in
set_option maxHeartbeats 4000000 in
theorem line121 (how : Int) (w : World) : Calls Tryz.prog 121 #[.int .i64 how] w (Ret w (fun _ : Nat => True) (fun b => .func (.func 122) #[] #[.pointer (some ⟨b, 0, none⟩)]) (fun b => [cellB b [.int .i64 how] 3])) := by
 refine J_enter (fun _ => False) (vs := [.int .i64 how]) (k := 3) (l := [(0, .int .i64 how)]) Tryz.func121 rfl rfl Tryz.ntmps121 rfl rfl (Wd.start _) ?_
 refine s2 ?_
 refine aW (oX [_]) (fun b1 hb1 => ?_)
 refine s10 ?_
 refine JR_one rfl (rr_tmp rfl) ?_
 intro w' hw
 exact ⟨b1, trivial, rfl, hw.pick (by repeat constructor)⟩
/-- A line: its number, and the function that asks. -/
structure Ln where
 r : Int
 f : Value
def eL (p : Ln) : List Value := [.int .i64 p.r, p.f]
/-- The lines, with the cells of those that ask what was touched. -/
abbrev linL (b1 b2 b3 b4 : Nat) : List Ln := [⟨1, .func (.func 123) #[] #[]⟩, ⟨2, .func (.func 122) #[] #[.pointer (some ⟨b1, 0, none⟩)]⟩, ⟨3, .func (.func 124) #[] #[]⟩, ⟨4, .func (.func 122) #[] #[.pointer (some ⟨b2, 0, none⟩)]⟩, ⟨5, .func (.func 122) #[] #[.pointer (some ⟨b3, 0, none⟩)]⟩, ⟨6, .func (.func 122) #[] #[.pointer (some ⟨b4, 0, none⟩)]⟩, ⟨7, .func (.func 125) #[] #[]⟩, ⟨8, .func (.func 126) #[] #[]⟩, ⟨9, .func (.func 127) #[] #[]⟩]
instance : Cf Tryz.prog 121 := ⟨fun _ _ => by kernel_rfl⟩
set_option maxRecDepth 100000 in
set_option maxHeartbeats 4000000 in
theorem lines_any (w : World) : Calls Tryz.prog 76 #[] w (Ret w (fun _ : Nat × Nat × Nat × Nat × Nat => True) (fun t => .slice (some ⟨t.2.2.2.2, 0, none⟩) 9 9) (fun t => [cellB t.2.2.2.2 ((linL t.1 t.2.1 t.2.2.1 t.2.2.2.1).flatMap eL) 173, cellB t.1 [.int .i64 1] 3, cellB t.2.1 [.int .i64 3] 3, cellB t.2.2.1 [.int .i64 2] 3, cellB t.2.2.2.1 [.int .i64 4] 3])) := by
 refine J_enter (fun _ => False) (vs := []) (k := 20) (l := []) Tryz.func76 rfl rfl Tryz.ntmps76 rfl rfl (Wd.start _) ?_
 refine s12 ?_
 refine aP (rp_buildC (fun us => [us.getD 0 undef, us.getD 1 undef]) rfl rfl (fun w => by kernel_rfl)) ?_
 refine s1 ?_
 refine aW (ow_callR (ec_val rfl rfl rfl Cf.h) rfl rfl (fun _ => rfl) (fun w hw => line121 _ w)) (fun b4 _ => ?_)
 refine aP (rp_buildC (fun us => [us.getD 0 undef, us.getD 1 undef]) rfl rfl (fun w => by kernel_rfl)) ?_
 refine aP (rp_buildC (fun us => [us.getD 0 undef, us.getD 1 undef]) rfl rfl (fun w => by kernel_rfl)) ?_
 refine s1 ?_
 refine aW (ow_callR (ec_val rfl rfl rfl Cf.h) rfl rfl (fun _ => rfl) (fun w hw => line121 _ w)) (fun b8 _ => ?_)
 refine aP (rp_buildC (fun us => [us.getD 0 undef, us.getD 1 undef]) rfl rfl (fun w => by kernel_rfl)) ?_
 refine s1 ?_
 refine aW (ow_callR (ec_val rfl rfl rfl Cf.h) rfl rfl (fun _ => rfl) (fun w hw => line121 _ w)) (fun b11 _ => ?_)
 refine aP (rp_buildC (fun us => [us.getD 0 undef, us.getD 1 undef]) rfl rfl (fun w => by kernel_rfl)) ?_
 refine s1 ?_
 refine aW (ow_callR (ec_val rfl rfl rfl Cf.h) rfl rfl (fun _ => rfl) (fun w hw => line121 _ w)) (fun b14 _ => ?_)
 refine aP (rp_buildC (fun us => [us.getD 0 undef, us.getD 1 undef]) rfl rfl (fun w => by kernel_rfl)) ?_
 refine aP (rp_buildC (fun us => [us.getD 0 undef, us.getD 1 undef]) rfl rfl (fun w => by kernel_rfl)) ?_
 refine aP (rp_buildC (fun us => [us.getD 0 undef, us.getD 1 undef]) rfl rfl (fun w => by kernel_rfl)) ?_
 refine aP (rp_buildC (fun us => [us.getD 0 undef, us.getD 1 undef]) rfl rfl (fun w => by kernel_rfl)) ?_
 refine aW (ow_sliceC (vs := [_, _, _, _, _, _, _, _, _, _, _, _, _, _, _, _, _, _]) (ty := 173) rfl rfl (by rfl) rfl rfl (fun _ => by kernel_rfl)) (fun b19 hb19 => ?_)
 refine s4 ?_
 refine JR_one rfl (rr_tmp rfl) ?_
 intro w' hw
 exact ⟨(b4, b8, b11, b14, b19), trivial, rfl, hw.pick (by repeat constructor)⟩
end Go.Proofs.YtmcpnoailbmkkaaGreatDoor
/- Layer 7: DeleteFunc; distinct. -/
namespace Go.Proofs.YtmcpnoailbmkkaaGreatDoor
open Go Go.RowKit Go.Proofs
attribute [local irreducible] J JQ JL JA JD

theorem fidx_cs (p : St → Bool) (l : List St) : (fidx p l = -1 ∧ l.filter (fun x => !p x) = l) ∨ ∃ j, j < l.length ∧ fidx p l = (j : Int) ∧ l.take j = (l.take (j + 1)).filter (fun x => !p x) := by
 by_cases h : 0 ≤ fidx p l
 ·obtain ⟨k, hk, e, h1, h2⟩ := fidx_in h
  refine .inr ⟨k, hk, e, ?_⟩
  rw [List.take_succ_eq_append_getElem hk, List.filter_append]
  have e1 : [l[k]'hk].filter (fun x => !p x) = [] := by simp [h1]
  rw [e1, List.append_nil]
  refine (List.filter_eq_self.2 (fun s hs => ?_)).symm
  obtain ⟨j, hj, rfl⟩ := List.getElem_of_mem hs
  rw [List.length_take] at hj
  rw [List.getElem_take, h2 j (by omega)]; rfl
 ·refine .inl ⟨by have := fidx_le p l; omega, List.filter_eq_self.2 (fun s hs => by rw [fidx_out h s hs]; rfl)⟩
set_option maxRecDepth 100000 in
set_option maxHeartbeats 4000000 in
theorem DeleteFuncT (f : FuncId) (caps : Array Value) (p : St → Bool) (l : List St) (A : Option Addr) (c : Nat) (w : World) [hf : Cf Tryz.prog f] (hl : l.length ≤ 1000) (hA : (ownB 43 4 A l.length c (l.flatMap eT)).holds w) (hAf : ∀ b, (ownB 43 4 A l.length c (l.flatMap eT)).foot b → b < w.heap.size) (hcl : ∀ x ∈ l, ∀ W, Wd ⟨w, (ownB 43 4 A l.length c (l.flatMap eT)).foot, none, []⟩ [] W → Calls Tryz.prog f (#[] ++ #[Stv x] ++ caps) W (Back (.bool (p x)) W)) : Calls Tryz.prog 80 #[.slice A l.length c, .func (.func f) #[] caps] w (RetM (ownB 43 4 A l.length c (l.flatMap eT)) (fun _ : Unit => True) (fun _ => .slice A (l.filter (fun x => !p x)).length c) (fun _ => ownB 43 4 A (l.filter (fun x => !p x)).length c ((l.filter (fun x => !p x)).flatMap eT)) w) := by
 refine J_start (B := ⟨w, (ownB 43 4 A l.length c (l.flatMap eT)).foot, none, []⟩) rfl rfl (vs := [.slice A l.length c, .func (.func f) #[] caps]) (k := 40) (l := [(0, .slice A l.length c), (1, .func (.func f) #[] caps)]) Tryz.func80 rfl rfl Tryz.ntmps80 rfl rfl (Wd.startM hA hAf) ?_
 refine s9 ?_
 refine aCB (fun w hw => IndexFuncT f caps p l _ w (fun x hx W hW => hcl x hx W ((hw.up hW).pick (Pk.nil _))) (own_arr ET hw (by repeat constructor) (by omega))) ?_
 refine s5 ?_
 rcases fidx_cs p l with ⟨hk1, hk2⟩ | ⟨k0, hk1, hk2, hk3⟩
 ·rw [hk1]
  refine kJ [(0, _), (1, _), (5, _)] ?_
  refine s3 ?_
  refine aDecT ?_
  refine s4 ?_
  refine kJ [(0, _)] ?_
  refine s7 ?_
  refine JR_one rfl (rr_tmp rfl) ?_
  intro w' hw
  exact ⟨(), trivial, by rw [hk2], by dsimp only; rw [hk2]; exact hw.pick (by repeat constructor)⟩
 ·rw [hk2]
  refine J_fact (fun hw => ?_)
  obtain ⟨g, rfl⟩ := own_some hw (ty := 43) (k := 4) (m := l.length) (c := c) (A := A) (xs := l.flatMap eT) (by repeat constructor) (by omega)
  clear hw
  refine kJ [(0, _), (1, _), (5, _)] ?_
  refine s3 ?_
  refine aDecF ?_
  refine s14 ?_
  refine xL (T := Nat × Nat × List St) (fun q => (q.1 < q.2.1 ∧ q.2.1 ≤ l.length) ∧ q.2.2.length = l.length ∧ q.2.2.take q.1 = (l.take q.2.1).filter (fun x => !p x) ∧ q.2.2.drop q.2.1 = l.drop q.2.1) (fun q => [(0, .slice (some ⟨g, 0, none⟩) l.length c), (1, .func (.func f) #[] caps), (5, .int .i64 (q.1 : Nat)), (6, .int .i64 (q.2.1 : Nat))]) (fun q => [ownB 43 4 (some ⟨g, 0, none⟩) l.length c (q.2.2.flatMap eT)]) (fun q => l.length - q.2.1) (k0, k0 + 1, l) ⟨⟨by dsimp only; omega, by dsimp only; omega⟩, rfl, hk3, rfl⟩ ?_
  rintro ⟨i, j, Mm⟩ ⟨⟨hij, hj⟩, hML, hM1, hM2⟩
  dsimp only at hij hj hML hM1 hM2 ⊢
  refine s7 ?_
  refine JL_dec (fun h19 => ?_) (fun h19 => ?_)
  ·refine s8 ?_
   have hjl : j < l.length := by omega
   have hjM : j < Mm.length := by omega
   obtain ⟨⟨zt, zn, zx, zy⟩, hz⟩ : ∃ z, l[j]'hjl = z := ⟨_, rfl⟩
   have hmz : (⟨zt, zn, zx, zy⟩ : St) ∈ l := by rw [← hz]; exact List.getElem_mem _
   have hjz : Mm[j]'hjM = (⟨zt, zn, zx, zy⟩ : St) := by
    have h1 : (Mm.drop j)[0]? = (l.drop j)[0]? := by rw [hM2]
    rw [List.getElem?_drop, List.getElem?_drop, Nat.add_zero, List.getElem?_eq_getElem hjl, List.getElem?_eq_getElem hjM] at h1
    rw [← hz]; exact Option.some.inj h1
   refine kJ [(0, _), (1, _), (5, _), (6, _)] ?_
   refine s4 ?_
   refine aV (vOwnA (cs := [.int .i64 zt, .int .i64 zn, .int .i64 zx, .int .i64 zy]) ET rfl rfl (by repeat constructor) hjM (by rw [hjz]; rfl)) ?_
   refine aW oA (fun b7 hb7 => ?_)
   refine s4 ?_
   refine kJ [(0, _), (1, _), (5, _), (6, _), (7, _)] ?_
   refine s3 ?_
   refine aW (ow_callB (ec_val rfl rfl rfl Cf.h) rfl rfl (fun w hw => hcl _ hmz w (hw.pick (Pk.nil _)))) (fun _ _ => ?_)
   refine JL_bool (fun h28 => ?_) (fun h28 => ?_)
   ·refine s7 ?_
    refine kJ [(0, _), (1, _), (5, _), (6, _)] ?_
    refine s5 ?_
    have hst : (l.take (j + 1)).filter (fun x => !p x) = (l.take j).filter (fun x => !p x) := by rw [List.take_succ_eq_append_getElem hjl, List.filter_append, hz]; simp [h28]
    have hdr : Mm.drop (j + 1) = l.drop (j + 1) := by rw [List.drop_eq_getElem_cons hjl, List.drop_eq_getElem_cons hjM] at hM2; injection hM2
    exact xR (i, j + 1, Mm) ⟨⟨by dsimp only; omega, by dsimp only; omega⟩, hML, by dsimp only; rw [hst]; exact hM1, hdr⟩ (by dsimp only; omega) (hl := ⟨rfl, rfl, rfl, (congrArg some (by go_num)), trivial⟩)
   ·refine s5 ?_
    refine kJ [(0, _), (1, _), (5, _), (6, _), (7, _)] ?_
    refine s4 ?_
    refine aP (pIdxI (i) rfl rfl rfl) ?_
    refine aW0 (oStE ET [_, _, _, _] (⟨zt, zn, zx, zy⟩ : St) (show i < Mm.length by omega) (hi := Nat.le_refl _)) ?_
    refine s2 ?_
    refine kJ [(0, _), (1, _), (5, _), (6, _)] ?_
    refine s12 ?_
    have hst : (l.take (j + 1)).filter (fun x => !p x) = (l.take j).filter (fun x => !p x) ++ [(⟨zt, zn, zx, zy⟩ : St)] := by rw [List.take_succ_eq_append_getElem hjl, List.filter_append, hz]; simp [h28]
    have hdr : Mm.drop (j + 1) = l.drop (j + 1) := by rw [List.drop_eq_getElem_cons hjl, List.drop_eq_getElem_cons hjM] at hM2; injection hM2
    have htk : (Mm.set i (⟨zt, zn, zx, zy⟩ : St)).take (i + 1) = Mm.take i ++ [(⟨zt, zn, zx, zy⟩ : St)] := by
     rw [List.take_succ_eq_append_getElem (by rw [List.length_set]; omega), List.getElem_set_self, List.take_set_of_le (Nat.le_refl i)]
    have hds : (Mm.set i (⟨zt, zn, zx, zy⟩ : St)).drop (j + 1) = Mm.drop (j + 1) := List.drop_set_of_lt (by omega)
    exact xR (i + 1, j + 1, Mm.set i (⟨zt, zn, zx, zy⟩ : St)) ⟨⟨by dsimp only; omega, by dsimp only; omega⟩, by dsimp only; rw [List.length_set]; exact hML, by dsimp only; rw [htk, hM1, hst], by dsimp only; rw [hds, hdr]⟩ (by dsimp only; omega) (hl := ⟨rfl, rfl, (congrArg some (by go_num)), (congrArg some (by go_num)), trivial⟩)
  ·refine s9 ?_
   obtain rfl : j = l.length := by omega
   refine J_fact (fun hw => ?_)
   obtain ⟨hc1, hc2⟩ := (own_cn hw (ty := 43) (k := 4) (m := l.length) (c := c) (A := some ⟨g, 0, none⟩) (xs := Mm.flatMap eT) (by repeat constructor)).1
   clear hw
   have hfi : Mm.take i = l.filter (fun x => !p x) := by rw [hM1, List.take_length]
   have hil : (Mm.take i).length = i := by rw [List.length_take]; omega
   refine kJ [(0, _), (5, _)] ?_
   refine s3 ?_
   refine aP (rp_sliceFrom (k := i) rfl rfl rfl Und.h Siz.h rfl (by omega)) ?_
   refine aW0 (oClr (t := 24) ET Mm [.int .i64 0, .int .i64 0, .int .i64 0, .int .i64 0] hML.symm (show i ≤ Mm.length by omega)) ?_
   refine s6 ?_
   refine aP (rp_sliceTo (k := i) rfl rfl rfl Und.h Siz.h rfl (by omega)) ?_
   refine s4 ?_
   refine JR_one rfl (rr_tmp rfl) ?_
   intro w' hw
   exact ⟨(), trivial, by rw [← hfi, hil], by dsimp only; rw [← hfi, hil]; exact hw.pick (by repeat constructor)⟩
theorem fidx_any {α : Type} (p : α → Bool) (l : List α) : decide (0 ≤ fidx p l) = l.any p := by
 by_cases h : 0 ≤ fidx p l
 ·obtain ⟨k, hk, -, h1, -⟩ := fidx_in h
  rw [decide_eq_true h, List.any_eq_true.2 ⟨_, List.getElem_mem hk, h1⟩]
 ·rw [decide_eq_false h]
  have : ¬ l.any p = true := fun h1 => by
   obtain ⟨x, hx, hp⟩ := List.any_eq_true.1 h1
   rw [fidx_out h x hx] at hp; cases hp
  simpa using this
/-- Outcomes without those that are there already. -/
def ddO (L : List Oc) : List Oc := L.foldl (fun r o => if r.any (fun p => decide (oP p = oP o)) = true then r else r ++ [o]) []
def ddP (L : List (List St × Bool)) : List (List St × Bool) := L.foldl (fun r o => if r.any (fun p => decide (p = o)) = true then r else r ++ [o]) []
theorem dd_s {L : List Oc} {k : Nat} {x : Oc} (hk : k < L.length) (hx : L[k]'hk = x) : ddO (L.take (k + 1)) = if (ddO (L.take k)).any (fun p => decide (oP p = oP x)) = true then ddO (L.take k) else ddO (L.take k) ++ [x] := by
 rw [List.take_succ_eq_append_getElem hk, hx]; unfold ddO; rw [List.foldl_append]; rfl
theorem dd_sub : ∀ (L r R : List Oc), r.Sublist R → (L.foldl (fun r o => if r.any (fun p => decide (oP p = oP o)) = true then r else r ++ [o]) r).Sublist (R ++ L)
 | [], r, R, h => by simpa using h
 | o :: L, r, R, h => by
  rw [List.foldl_cons]
  have e : R ++ o :: L = (R ++ [o]) ++ L := by simp
  rw [e]
  refine dd_sub L _ (R ++ [o]) ?_
  split
  ·exact h.trans (List.sublist_append_left _ _)
  ·exact h.append (List.Sublist.refl _)
theorem ddO_sub (L : List Oc) : (ddO L).Sublist L := dd_sub L [] [] (List.Sublist.refl _)
theorem ddO_len (L : List Oc) : (ddO L).length ≤ L.length := (ddO_sub L).length_le
theorem ddO_map (L : List Oc) : (ddO L).map oP = ddP (L.map oP) := by
 have H : ∀ (L r : List Oc), (L.foldl (fun r o => if r.any (fun p => decide (oP p = oP o)) = true then r else r ++ [o]) r).map oP = (L.map oP).foldl (fun r o => if r.any (fun p => decide (p = o)) = true then r else r ++ [o]) (r.map oP) := by
  intro L
  induction L with
  | nil => intro r; rfl
  | cons o L ih =>
   intro r
   rw [List.foldl_cons, List.map_cons, List.foldl_cons, ih]
   congr 1
   have e : (r.map oP).any (fun p => decide (p = oP o)) = r.any (fun p => decide (oP p = oP o)) := by rw [List.any_map]; rfl
   rw [e]
   split <;> simp
 exact H L []
/-- A predicate of outcomes, as a closure. -/
def PrO (f : FuncId) (caps : Array Value) (p : Oc → Bool) (l : List Oc) (w0 : World) : Prop := ∀ x ∈ l, ∀ W, Below w0.heap.size w0 W → Calls Tryz.prog f (#[] ++ #[Ocv x] ++ caps) W (Back (.bool (p x)) W)
theorem PrO.up {f : FuncId} {caps : Array Value} {p : Oc → Bool} {l : List Oc} {w w1 : World} (h : PrO f caps p l w) (hb : Below w.heap.size w w1) : PrO f caps p l w1 := fun x hx W hW => h x hx W (hb.trans (hW.mono hb.size))
set_option maxRecDepth 100000 in
set_option maxHeartbeats 4000000 in
theorem IndexFuncO (f : FuncId) (caps : Array Value) (p : Oc → Bool) (l : List Oc) (v : Value) (w : World) [hf : Cf Tryz.prog f] (hcl : PrO f caps p l w) (hrow : Arr 2 eO w v l) : Calls Tryz.prog 174 #[v, .func (.func f) #[] caps] w (Back (.int .i64 (fidx p l)) w) := by
 have hrow0 := hrow
 obtain ⟨A, cap, rfl, -, ⟨hl9, -⟩, hA⟩ := hrow
 refine J_enter (fun _ => False) (vs := [.slice A l.length cap, .func (.func f) #[] caps]) (k := 17) (l := [(0, .slice A l.length cap), (1, .func (.func f) #[] caps)]) Tryz.func174 rfl rfl Tryz.ntmps174 rfl rfl (Wd.start _) ?_
 refine s14 ?_
 refine xL (T := Nat) (fun k => k ≤ l.length ∧ ∀ j (hj : j < l.length), j < k → p (l[j]'hj) = false) (fun k => [(0, .slice A l.length cap), (1, .func (.func f) #[] caps), (7, .int .i64 (l.length : Nat)), (8, .int .i64 (k : Nat))]) (fun k => []) (fun k => l.length - k) 0 ⟨Nat.zero_le _, fun j _ h => absurd h (Nat.not_lt_zero _)⟩ ?_
 rintro k ⟨hk, hall⟩
 refine s3 ?_
 refine JL_dec (fun h9 => ?_) (fun h9 => ?_)
 ·refine s15 ?_
  have hltx : k < l.length := by omega
  obtain ⟨bkx, qx, rfl, hh⟩ := hA (by intro e; rw [e] at hltx; simp at hltx)
  obtain ⟨⟨⟨xA, xn, xk, xl⟩, xg⟩, hx⟩ : ∃ y, l[k]'hltx = y := ⟨_, rfl⟩
  have hmx : (⟨⟨xA, xn, xk, xl⟩, xg⟩ : Oc) ∈ l := by rw [← hx]; exact List.getElem_mem _
  refine s5 ?_
  refine aV (vHoldA (cs := [.slice xA xn xk, .bool xg]) EO rfl rfl (fun h => h) hh hltx (by rw [hx]; rfl)) ?_
  refine aW (ow_callB (ec_val rfl rfl rfl Cf.h) rfl rfl (fun w hw => hcl (⟨⟨xA, xn, xk, xl⟩, xg⟩ : Oc) hmx w hw.bel)) (fun _ _ => ?_)
  refine JL_bool (fun h16 => ?_) (fun h16 => ?_)
  ·refine s4 ?_
   refine kJ [(5, _)] ?_
   refine s11 ?_
   refine JR_one rfl (rr_tmp rfl) ?_
   intro w' hw
   exact ⟨by rw [fidx_at hltx (by rw [hx]; exact h16) (fun j hj => hall j (by omega) hj)], hw.bel⟩
  ·refine s6 ?_
   refine kJ [(0, _), (1, _), (7, _), (8, _)] ?_
   refine s4 ?_
   have hn : ∀ j (hj : j < l.length), j < k + 1 → p (l[j]'hj) = false := fun j hj hjk => by
    rcases Nat.lt_or_ge j k with h | h
    ·exact hall j hj h
    ·obtain rfl : j = k := by omega
     rw [hx]; exact h16
   exact xR (k + 1) ⟨by omega, hn⟩ (by omega) (hl := ⟨rfl, rfl, rfl, (congrArg some (by go_num)), trivial⟩)
 ·refine s10 ?_
  refine kJ [] ?_
  refine s5 ?_
  refine JR_one rfl (rr_tmp rfl) ?_
  intro w' hw
  exact ⟨by rw [fidx_none (fun j hj => hall j hj (by omega))], hw.bel⟩
set_option maxRecDepth 100000 in
set_option maxHeartbeats 4000000 in
theorem ContainsFuncO (f : FuncId) (caps : Array Value) (p : Oc → Bool) (l : List Oc) (v : Value) (w : World) [hf : Cf Tryz.prog f] (hcl : PrO f caps p l w) (hrow : Arr 2 eO w v l) : Calls Tryz.prog 128 #[v, .func (.func f) #[] caps] w (Back (.bool (l.any p)) w) := by
 have hrow0 := hrow
 obtain ⟨A, cap, rfl, -, ⟨hl9, -⟩, hA⟩ := hrow
 refine J_enter (fun _ => False) (vs := [.slice A l.length cap, .func (.func f) #[] caps]) (k := 7) (l := [(0, .slice A l.length cap), (1, .func (.func f) #[] caps)]) Tryz.func128 rfl rfl Tryz.ntmps128 rfl rfl (Wd.start _) ?_
 refine s9 ?_
 refine aCB (fun w hw => IndexFuncO f caps p l _ w (hcl.up hw.bel) (hrow0.up EO hw.bel)) ?_
 refine s5 ?_
 refine JR_one rfl (rr_tmp rfl) ?_
 intro w' hw
 exact ⟨by rw [fidx_any], hw.bel⟩
set_option maxRecDepth 100000 in
set_option maxHeartbeats 4000000 in
theorem dis1_any (a b : Oc) (c : Nat) (w : World) (ha : OcW w a) (hb : OcW w b) (hc : (cellB c (eO b) 175).holds w) : Calls Tryz.prog 129 (#[] ++ #[Ocv a] ++ #[.pointer (some ⟨c, 0, none⟩)]) w (Back (.bool (decide (oP a = oP b))) w) := by
 obtain ⟨⟨Aa, na, ka, la⟩, ga⟩ := a
 obtain ⟨⟨Ab, nb, kb, lb⟩, gb⟩ := b
 unfold OcW at ha hb
 unfold eO at hc
 dsimp only [Dv.v] at ha hb hc
 refine J_enter (fun _ => False) (vs := [.agg #[.slice Aa na ka, .bool ga], .pointer (some ⟨c, 0, none⟩)]) (k := 14) (l := [(0, .agg #[.slice Aa na ka, .bool ga]), (1, .pointer (some ⟨c, 0, none⟩))]) Tryz.func129 rfl rfl Tryz.ntmps129 rfl rfl (Wd.start _) ?_
 refine s2 ?_
 refine aW (oX [_, _]) (fun b2 hb2 => ?_)
 refine s7 ?_
 refine JL_bool (fun h5 => ?_) (fun h5 => ?_)
 ·refine s1 ?_
  refine aV (vOld rfl rfl (fun h => h) (cellB_get hc rfl)) ?_
  refine JL_bool (fun h7 => ?_) (fun h7 => ?_)
  ·refine aP (pEqlB rfl rfl rfl) ?_
   refine aDecT ?_ (by decide)
   refine s4 ?_
   refine aV (vOld rfl rfl (fun h => h) (cellB_get hc rfl)) ?_
   refine aCB (fun w hw => EqualT la lb _ _ w (ha.up ET hw.bel) (hb.up ET hw.bel)) ?_
   refine s5 ?_
   refine JR_one rfl (rr_tmp rfl) ?_
   intro w' hw
   exact ⟨by congr 2; rw [decide_eq_decide]; unfold oP; simp [h5, h7], hw.bel⟩
  ·refine aP (pEqlB rfl rfl rfl) ?_
   refine aDecF ?_ (by decide)
   refine s11 ?_
   refine JR_one rfl (rr_tmp rfl) ?_
   intro w' hw
   exact ⟨by congr 2; exact (decide_eq_false (fun h => by have := congrArg Prod.snd h; unfold oP at this; dsimp only at this; rw [h5, h7] at this; cases this)).symm, hw.bel⟩
 ·refine s1 ?_
  refine aV (vOld rfl rfl (fun h => h) (cellB_get hc rfl)) ?_
  refine JL_bool (fun h7 => ?_) (fun h7 => ?_)
  ·refine aP (pEqlB rfl rfl rfl) ?_
   refine aDecF ?_ (by decide)
   refine s11 ?_
   refine JR_one rfl (rr_tmp rfl) ?_
   intro w' hw
   exact ⟨by congr 2; exact (decide_eq_false (fun h => by have := congrArg Prod.snd h; unfold oP at this; dsimp only at this; rw [h5, h7] at this; cases this)).symm, hw.bel⟩
  ·refine aP (pEqlB rfl rfl rfl) ?_
   refine aDecT ?_ (by decide)
   refine s4 ?_
   refine aV (vOld rfl rfl (fun h => h) (cellB_get hc rfl)) ?_
   refine aCB (fun w hw => EqualT la lb _ _ w (ha.up ET hw.bel) (hb.up ET hw.bel)) ?_
   refine s5 ?_
   refine JR_one rfl (rr_tmp rfl) ?_
   intro w' hw
   exact ⟨by congr 2; rw [decide_eq_decide]; unfold oP; simp [h5, h7], hw.bel⟩
set_option maxRecDepth 100000 in
set_option maxHeartbeats 4000000 in
theorem distinct_any (l : List Oc) (v : Value) (w : World) (hrow : Arr 2 eO w v l) (ho : ∀ p ∈ l, OcW w p) (hl : l.length ≤ 1000) : Calls Tryz.prog 78 #[v] w (RetS 175 2 eO (ddO l) w) := by
 have hrow0 := hrow
 obtain ⟨A, cap, rfl, -, ⟨hl9, -⟩, hA⟩ := hrow
 refine J_enter (fun _ => False) (vs := [.slice A l.length cap]) (k := 21) (l := [(0, .slice A l.length cap)]) Tryz.func78 rfl rfl Tryz.ntmps78 rfl rfl (Wd.start _) ?_
 refine s12 ?_
 refine J_own0 175 2 ?_
 refine s7 ?_
 refine xL (T := Nat × Option Addr × Nat) (fun q => q.1 ≤ l.length) (fun q => [(3, .slice q.2.1 (ddO (l.take q.1)).length q.2.2), (6, .slice A l.length cap), (7, .int .i64 (l.length : Nat)), (8, .int .i64 (q.1 : Nat))]) (fun q => [ownB 175 2 q.2.1 (ddO (l.take q.1)).length q.2.2 ((ddO (l.take q.1)).flatMap eO)]) (fun q => l.length - q.1) (0, none, 0) (Nat.zero_le _) ?_
 rintro ⟨k, vA, vc⟩ hk
 dsimp only at hk ⊢
 have hdl := ddO_len (l.take k)
 rw [List.length_take] at hdl
 refine s3 ?_
 refine JL_dec (fun h9 => ?_) (fun h9 => ?_)
 ·refine s9 ?_
  have hltx : k < l.length := by omega
  obtain ⟨bkx, qx, rfl, hh⟩ := hA (by intro e; rw [e] at hltx; simp at hltx)
  obtain ⟨⟨⟨xA, xn, xk, xl⟩, xg⟩, hx⟩ : ∃ y, l[k]'hltx = y := ⟨_, rfl⟩
  have hmx : (⟨⟨xA, xn, xk, xl⟩, xg⟩ : Oc) ∈ l := by rw [← hx]; exact List.getElem_mem _
  refine s2 ?_
  refine aV (vHoldA (cs := [.slice xA xn xk, .bool xg]) EO rfl rfl (fun h => h) hh hltx (by rw [hx]; rfl)) ?_
  refine aW oA (fun b5 hb5 => ?_)
  refine s7 ?_
  refine aCB (fun w hw => ContainsFuncO 129 #[.pointer (some ⟨b5, 0, none⟩)] (fun p => decide (oP p = oP (⟨⟨xA, xn, xk, xl⟩, xg⟩ : Oc))) (ddO (l.take k)) _ w (fun a ha W hW => dis1_any a (⟨⟨xA, xn, xk, xl⟩, xg⟩ : Oc) b5 W ((ho a ((List.take_subset _ _) ((ddO_sub _).subset ha))).up (hw.up hW).bel) ((ho _ hmx).up (hw.up hW).bel) ((hw.up hW).ok (cellB b5 [.slice xA xn xk, .bool xg] 175) (by repeat constructor)).1) (own_arr (A := vA) (c := vc) EO hw (by repeat constructor) (by omega))) ?_
  refine JL_bool (fun h14 => ?_) (fun h14 => ?_)
  ·refine s7 ?_
   refine kJ [(3, _), (6, _), (7, _), (8, _)] ?_
   refine s4 ?_
   have hs := dd_s hltx hx
   rw [if_pos h14] at hs
   exact xR (k + 1, vA, vc) (by dsimp only; omega) (by dsimp only; omega) (hl := ⟨(by dsimp only; rw [hs]; rfl), rfl, rfl, (congrArg some (by go_num)), trivial⟩) (hH := by (try dsimp only); rw [hs]; repeat constructor)
  ·refine s4 ?_
   refine kJ [(3, _), (5, _), (6, _), (7, _), (8, _)] ?_
   refine s3 ?_
   refine aW (ow_sliceC (vs := [_, _]) (ty := 175) rfl rfl (by rfl) rfl rfl (fun _ => by kernel_rfl)) (fun b18 hb18 => ?_)
   refine aS (oApp (sl := 28) EO ((⟨⟨xA, xn, xk, xl⟩, xg⟩ : Oc))) (fun A19 c19 => ?_)
   refine s4 ?_
   refine kJ [(3, _), (6, _), (7, _), (8, _)] ?_
   refine s4 ?_
   have hs := dd_s hltx hx
   rw [if_neg (by rw [h14]; simp)] at hs
   exact xR (k + 1, A19, c19) (by dsimp only; omega) (by dsimp only; omega) (hl := ⟨(by dsimp only; rw [hs]; rfl), rfl, rfl, (congrArg some (by go_num)), trivial⟩) (hH := by (try dsimp only); rw [hs]; repeat constructor)
 ·refine s10 ?_
  refine kJ [(3, _)] ?_
  refine s6 ?_
  refine JR_one rfl (rr_tmp rfl) ?_
  intro w' hw
  obtain rfl : k = l.length := by omega
  rw [List.take_length] at *
  exact ⟨vA, vc, rfl, hw.pick (by repeat constructor)⟩
set_option maxRecDepth 100000 in
set_option maxHeartbeats 4000000 in
theorem as_any (l : List St) (v : Value) (w : World) (hrow : Arr 4 eT w v l) (hl : l.length ≤ 1000) (hb : ∀ s ∈ l, bnd s) (hd : dis l) : Calls Tryz.prog 77 #[v] w (Ret w (fun _ : Option Addr × Nat => True) (fun t => .agg #[.slice t.1 (srt l).length t.2, .bool false]) (fun t => [ownB 43 4 t.1 (srt l).length t.2 ((srt l).flatMap eT)])) := by
 have hrow0 := hrow
 obtain ⟨A, cap, rfl, -, ⟨hl9, -⟩, hA⟩ := hrow
 refine J_enter (fun _ => False) (vs := [.slice A l.length cap]) (k := 5) (l := [(0, .slice A l.length cap)]) Tryz.func77 rfl rfl Tryz.ntmps77 rfl rfl (Wd.start _) ?_
 refine s2 ?_
 refine aW oA (fun b2 hb2 => ?_)
 refine s5 ?_
 refine aS (oS (fun w hw => sortedT l _ w (hrow0.up ET hw.bel) hl hb hd)) (fun A4 c4 => ?_)
 refine aP (rp_buildC (fun us => [us.getD 0 undef, .bool false]) rfl rfl (fun w => by kernel_rfl)) ?_
 refine s4 ?_
 refine JR_one rfl (rr_agg (cs := [_, _]) rfl Agg.h (Siz.h (k := 2)) (by repeat constructor) (by rfl)) ?_
 intro w' hw
 exact ⟨(A4, c4), trivial, rfl, hw.pick (by repeat constructor)⟩
set_option maxRecDepth 100000 in
set_option maxHeartbeats 4000000 in
theorem own_any (s : St) (x : Th) (A : Option Addr) (n c b : Nat) (w : World) (hc : (cellB b [.int .i64 x.team, .int .i64 x.n, .bool x.late, .bool x.short, .int .i64 x.how, .slice A n c] 26).holds w) : Calls Tryz.prog 79 (#[] ++ #[Stv s] ++ #[.pointer (some ⟨b, 0, none⟩)]) w (Back (.bool (isB x.team x.n s)) w) := by
 obtain ⟨st_, sn, sx, sy⟩ := s
 obtain ⟨xteam, xnn, xlate, xshort, xhow⟩ := x
 refine J_enter (fun _ => False) (vs := [.agg #[.int .i64 st_, .int .i64 sn, .int .i64 sx, .int .i64 sy], .pointer (some ⟨b, 0, none⟩)]) (k := 14) (l := [(0, .agg #[.int .i64 st_, .int .i64 sn, .int .i64 sx, .int .i64 sy]), (1, .pointer (some ⟨b, 0, none⟩))]) Tryz.func79 rfl rfl Tryz.ntmps79 rfl rfl (Wd.start _) ?_
 refine s2 ?_
 refine aW (oX [_, _, _, _]) (fun b2 hb2 => ?_)
 refine s8 ?_
 refine aV (vOld rfl rfl (fun h => h) (cellB_get hc rfl)) ?_
 refine s1 ?_
 refine JL_dec (fun h8 => ?_) (fun h8 => ?_)
 ·refine s4 ?_
  refine aV (vOld rfl rfl (fun h => h) (cellB_get hc rfl)) ?_
  refine s6 ?_
  refine JR_one rfl (rr_tmp rfl) ?_
  intro w' hw
  exact ⟨by unfold isB; dsimp only; rw [h8, beq_self_eq_true, Bool.true_and]; congr 2, hw.bel⟩
 ·refine s11 ?_
  refine JR_one rfl (rr_tmp rfl) ?_
  intro w' hw
  exact ⟨by unfold isB; dsimp only; rw [beq_eq_false_iff_ne.2 h8]; rfl, hw.bel⟩
end Go.Proofs.YtmcpnoailbmkkaaGreatDoor
/- Layer 7: judge. -/
namespace Go.Proofs.YtmcpnoailbmkkaaGreatDoor
open Go Go.RowKit Go.Proofs
attribute [local irreducible] J JQ JL JA JD

/-- Does line k (from 0) ask so? -/
def askB (x : Th) (rm mv sf : Bool) : Nat → Bool
 | 0 => x.late
 | 1 => decide (x.how = 1)
 | 2 => x.short
 | 3 => decide (x.how = 3)
 | 4 => decide (x.how = 2)
 | 5 => decide (x.how = 4)
 | 6 => rm && !sf
 | 7 => rm
 | 8 => mv
 | _ => false
def rulG (p : Nat → Bool) : Nat → Nat → Int
 | 0, _ => 0
 | n + 1, k => if p k = true then (k : Int) + 1 else rulG p n (k + 1)
/-- The rule's number. -/
def rulF (x : Th) (rm mv sf : Bool) : Int := rulG (askB x rm mv sf) 9 0
theorem rul_y {p : Nat → Bool} {R : Int} (n k : Nat) (h : R = rulG p (n + 1) k) (hp : p k = true) : (k : Int) + 1 = R := by rw [h]; unfold rulG; rw [if_pos hp]
theorem rul_n {p : Nat → Bool} {R : Int} (n k : Nat) (h : R = rulG p (n + 1) k) (hp : p k = false) : R = rulG p n (k + 1) := by rw [h]; show (if _ then _ else _) = _; rw [if_neg (by rw [hp]; decide)]
/-- The outcomes by a rule; who chooses. -/
def outF (l m : List St) (x : Th) (r : Int) : List (List St × Bool) :=
 if r = 0 then ddP [(srt m, false)] else if r = 4 then ddP [(srt l, true)] else if r = 5 then ddP [(srt l, false), (srt m, false), (srt (m.filter (fun s => !isB x.team x.n s)), false)] else if r = 6 then ddP [(srt m, false), (srt l, true)] else if r = 9 then ddP [(srt m, false), (srt l, false)] else ddP [(srt l, false)]
def choF (x : Th) (r : Int) : Int := if r = 5 then 1 - x.team else if r = 6 then x.team else if r = 9 then 1 - x.team else -1
/-- An outcome's row. -/
abbrev rwB (p : Oc) : It := ownB 43 4 p.d.A p.d.n p.d.c (p.d.l.flatMap eT)
/-- Outcomes in memory. -/
structure OcT where
 A : Option Addr
 c : Nat
 L : List Oc
abbrev ocI (t : OcT) : List It := [ownB 175 2 t.A t.L.length t.c (t.L.flatMap eO), grpB (t.L.map rwB)]
/-- The outcomes are such, with rows of at most 16 stones. -/
def OcP (os : List (List St × Bool)) (t : OcT) : Prop := t.L.map oP = os ∧ ∀ p ∈ t.L, p.d.n = p.d.l.length ∧ p.d.l.length ≤ 16
abbrev Ruv (r h : Int) (t : OcT) : Value := .agg #[.int .i64 r, .int .i64 h, .slice t.A t.L.length t.c]
theorem map_nro {α : Type} {f : α → It} (h : ∀ x, (f x).ro = false) (L : List α) : ((L.map f).all fun A => !A.ro) = true := by rw [List.all_map]; exact List.all_eq_true.2 (fun x _ => by simp [h])
theorem dis_flt {l : List St} (p : St → Bool) (h : dis l) : dis (l.filter p) := fun a ha b hb h1 h2 => h a (List.mem_filter.1 ha).1 b (List.mem_filter.1 hb).1 h1 h2
theorem jud_out {w w' : World} {L0 : List Oc} {A : Option Addr} {c : Nat} {os : List (List St × Bool)} {H : List It} (hw : Wd (bs w) H w') (hk : Pk (L0.map rwB ++ [ownB 175 2 A (ddO L0).length c ((ddO L0).flatMap eO)]) H) (hL : ddP (L0.map oP) = os) (hn : ∀ p ∈ L0, p.d.n = p.d.l.length ∧ p.d.l.length ≤ 16) :
  OcP os ⟨A, c, ddO L0⟩ ∧ Wd (bs w) (ocI ⟨A, c, ddO L0⟩) w' := by
 refine ⟨⟨by rw [ddO_map]; exact hL, fun p hp => hn p ((ddO_sub L0).subset hp)⟩, ?_⟩
 have h := hw.closeS hk (map_nro (fun _ => rfl) L0) ((ddO_sub L0).map rwB)
 exact h.pick (.pick (.there _ (.here _)) (.pick (.here _) (.nil _)))
instance : Cf Tryz.prog 123 := ⟨fun _ _ => by kernel_rfl⟩
instance : Cf Tryz.prog 124 := ⟨fun _ _ => by kernel_rfl⟩
instance : Cf Tryz.prog 125 := ⟨fun _ _ => by kernel_rfl⟩
instance : Cf Tryz.prog 126 := ⟨fun _ _ => by kernel_rfl⟩
instance : Cf Tryz.prog 127 := ⟨fun _ _ => by kernel_rfl⟩
instance : Cf Tryz.prog 77 := ⟨fun _ _ => by kernel_rfl⟩
set_option maxRecDepth 100000 in
set_option maxHeartbeats 4000000 in
theorem judge_any (c : Cd) (n team : Int) (l m : List St) (x : Th) (v : Value) (A2 : Option Addr) (cap2 : Nat) (w : World) (hrow : Arr 4 eT w v l) (hrow2 : Arr 4 eT w (.slice A2 m.length cap2) m) (hcl : chkB l = true) (hcm : chkB m = true) (hxt : 0 ≤ x.team ∧ x.team ≤ 1) : Calls Tryz.prog 28 #[Tnv c n team, v, Thv x A2 m.length cap2] w (Ret w (OcP (outF l m x (rulF x (remB c n team m l) (movB c n team m l) (decide (n < c.s))))) (Ruv (rulF x (remB c n team m l) (movB c n team m l) (decide (n < c.s))) (choF x (rulF x (remB c n team m l) (movB c n team m l) (decide (n < c.s))))) ocI) := by
 obtain ⟨kf, kt, ks, ke, kp⟩ := c
 obtain ⟨xteam, xnn, xlate, xshort, xhow⟩ := x
 have hrow0 := hrow
 obtain ⟨A, cap, rfl, -, ⟨hl9, -⟩, hA⟩ := hrow
 have hrow20 := hrow2
 have hbl := chk_bnd hcl
 have hbm := chk_bnd hcm
 have hdl := chk_dis hcl
 have hdm := chk_dis hcm
 have hl16 := (chk_facts hcl).1
 have hm16 := (chk_facts hcm).1
 have hbf : ∀ s ∈ m.filter (fun s => !isB xteam xnn s), bnd s := fun s hs => hbm s (List.mem_filter.1 hs).1
 have hdf := dis_flt (fun s => !isB xteam xnn s) hdm
 have hfl := List.length_filter_le (fun s => !isB xteam xnn s) m
 dsimp only at hxt
 dsimp only [Thv, Tnv]
 refine J_enter (fun _ => False) (vs := [.agg #[.int .i64 kf, .int .i64 kt, .int .i64 ks, .int .i64 ke, .bool kp, .int .i64 n, .int .i64 team], .slice A l.length cap, .agg #[.int .i64 xteam, .int .i64 xnn, .bool xlate, .bool xshort, .int .i64 xhow, .slice A2 m.length cap2]]) (k := 110) (l := [(0, .agg #[.int .i64 kf, .int .i64 kt, .int .i64 ks, .int .i64 ke, .bool kp, .int .i64 n, .int .i64 team]), (1, .slice A l.length cap), (2, .agg #[.int .i64 xteam, .int .i64 xnn, .bool xlate, .bool xshort, .int .i64 xhow, .slice A2 m.length cap2])]) Tryz.func28 rfl rfl Tryz.ntmps28 rfl rfl (Wd.start _) ?_
 refine s2 ?_
 refine aW (oX [_, _, _, _, _, _, _]) (fun b3 hb3 => ?_)
 refine aW (oX [_, _, _, _, _, _]) (fun b5 hb5 => ?_)
 refine aW oA (fun b6 hb6 => ?_)
 refine s2 ?_
 refine J_scope ?_
 refine s5 ?_
 refine aCB (fun w hw => seen_any (⟨kf, kt, ks, ke, kp⟩ : Cd) n team l m (⟨xteam, xnn, xlate, xshort, xhow⟩ : Th) _ A2 cap2 w (hrow0.up ET hw.bel) (hrow20.up ET hw.bel) (fun s hs => bnd64 (hbl s hs)) (fun s hs => bnd64 (hbm s hs)) (by omega)) ?_
 obtain ⟨rm, hrm⟩ : ∃ b, b = remB (⟨kf, kt, ks, ke, kp⟩ : Cd) n team m l := ⟨_, rfl⟩
 obtain ⟨mv, hmv⟩ : ∃ b, b = movB (⟨kf, kt, ks, ke, kp⟩ : Cd) n team m l := ⟨_, rfl⟩
 obtain ⟨sf, hsf⟩ : ∃ b, b = decide (n < ks) := ⟨_, rfl⟩
 rw [← hrm, ← hmv, ← hsf]
 refine aW oA (fun b7 hb7 => ?_)
 refine aW0 (wStore (cs := [_, _, _, _, _, _, _, _, _]) rfl rfl rfl rfl rfl rfl rfl (by repeat constructor) rfl rfl) ?_
 refine s3 ?_
 refine kJ [(1, _), (5, _), (6, _), (7, _)] ?_
 refine s1 ?_
 refine aP (rp_buildC (fun us => [us.getD 0 undef, us.getD 1 undef, .slice none 0 0]) rfl rfl (fun w => by kernel_rfl)) ?_
 refine aW oA (fun b8 hb8 => ?_)
 refine s6 ?_
 refine xC (T := Int) (fun r => r = rulF (⟨xteam, xnn, xlate, xshort, xhow⟩ : Th) rm mv sf) (fun r => [(1, .slice A l.length cap), (5, .pointer (some ⟨b5, 0, none⟩)), (6, .pointer (some ⟨b6, 0, none⟩)), (8, .pointer (some ⟨b8, 0, none⟩))]) (fun r => [cellB b5 [.int .i64 xteam, .int .i64 xnn, .bool xlate, .bool xshort, .int .i64 xhow, .slice A2 m.length cap2] 26, cellB b6 [.int .i64 0, .int .i64 0, .slice none 0 0] 30, cellB b8 [.int .i64 r, .int .i64 (-1), .slice none 0 0] 30]) ?_ ?_
 ·refine s2 ?_
  refine aW (oR (fun w hw => lines_any w)) (fun t19 _ => ?_)
  obtain ⟨g1, g2, g3, g4, g9⟩ := t19
  dsimp only
  refine s5 ?_
  refine xL (T := Nat) (fun k => k ≤ 9 ∧ rulF (⟨xteam, xnn, xlate, xshort, xhow⟩ : Th) rm mv sf = rulG (askB (⟨xteam, xnn, xlate, xshort, xhow⟩ : Th) rm mv sf) (9 - k) k) (fun k => [(1, .slice A l.length cap), (5, .pointer (some ⟨b5, 0, none⟩)), (6, .pointer (some ⟨b6, 0, none⟩)), (7, .pointer (some ⟨b7, 0, none⟩)), (8, .pointer (some ⟨b8, 0, none⟩)), (19, .slice (some ⟨g9, 0, none⟩) 9 9), (20, .int .i64 (9 : Nat)), (21, .int .i64 (k : Nat))]) (fun k => [cellB b5 [.int .i64 xteam, .int .i64 xnn, .bool xlate, .bool xshort, .int .i64 xhow, .slice A2 m.length cap2] 26, cellB b6 [.int .i64 0, .int .i64 0, .slice none 0 0] 30, cellB b7 (evC (⟨xteam, xnn, xlate, xshort, xhow⟩ : Th) A2 m.length cap2 rm mv sf) 167, cellB b8 [.int .i64 0, .int .i64 (-1), .slice none 0 0] 30, cellB g9 ((linL g1 g2 g3 g4).flatMap eL) 173, cellB g1 [.int .i64 1] 3, cellB g2 [.int .i64 3] 3, cellB g3 [.int .i64 2] 3, cellB g4 [.int .i64 4] 3]) (fun k => 9 - k) 0 ⟨by omega, rfl⟩ ?_
  rintro k ⟨hk, hru⟩
  refine s3 ?_
  refine JL_dec (fun h22 => ?_) (fun h22 => ?_)
  ·refine s9 ?_
   rcases (show k = 0 ∨ k = 1 ∨ k = 2 ∨ k = 3 ∨ k = 4 ∨ k = 5 ∨ k = 6 ∨ k = 7 ∨ k = 8 by omega) with rfl | rfl | rfl | rfl | rfl | rfl | rfl | rfl | rfl
   ·refine s2 ?_
    refine aV (vAgg [_, _] rfl rfl rfl (by repeat constructor) rfl) ?_
    refine aW oA (fun b10 hb10 => ?_)
    refine s7 ?_
    refine aV (vAgg [_, _, _, _, _, _, _, _, _] rfl rfl rfl (by repeat constructor) rfl) ?_
    refine aW (ow_callB (ec_valE (args := #[Evv (⟨xteam, xnn, xlate, xshort, xhow⟩ : Th) A2 m.length cap2 rm mv sf]) rfl rfl rfl Cf.h rfl) rfl rfl (fun w hw => line123 (⟨xteam, xnn, xlate, xshort, xhow⟩ : Th) A2 m cap2 rm mv sf w)) (fun _ _ => ?_)
    refine JL_bool (fun h28 => ?_) (fun h28 => ?_)
    ·refine s4 ?_
     refine kJ [(1, _), (5, _), (6, _), (8, _), (10, _)] ?_
     refine s12 ?_
     exact xE (1 : Int) (rul_y 8 0 hru h28)
    ·refine s6 ?_
     refine kJ [(1, _), (5, _), (6, _), (7, _), (8, _), (19, _), (20, _), (21, _)] ?_
     refine s4 ?_
     exact xR (1) ⟨by omega, rul_n 8 0 hru h28⟩ (by omega) (hl := ⟨rfl, rfl, rfl, rfl, rfl, rfl, rfl, (congrArg some (by go_num)), trivial⟩)
   ·refine s2 ?_
    refine aV (vAgg [_, _] rfl rfl rfl (by repeat constructor) rfl) ?_
    refine aW oA (fun b10 hb10 => ?_)
    refine s7 ?_
    refine aV (vAgg [_, _, _, _, _, _, _, _, _] rfl rfl rfl (by repeat constructor) rfl) ?_
    refine aW (ow_callB (ec_valE (args := #[Evv (⟨xteam, xnn, xlate, xshort, xhow⟩ : Th) A2 m.length cap2 rm mv sf, .pointer (some ⟨g1, 0, none⟩)]) rfl rfl rfl Cf.h rfl) rfl rfl (fun w hw => line122 g1 1 (⟨xteam, xnn, xlate, xshort, xhow⟩ : Th) A2 m cap2 rm mv sf w (hw.ok (cellB g1 [.int .i64 1] 3) (by repeat constructor)).1)) (fun _ _ => ?_)
    refine JL_dec (fun h28 => ?_) (fun h28 => ?_)
    ·refine s4 ?_
     refine kJ [(1, _), (5, _), (6, _), (8, _), (10, _)] ?_
     refine s12 ?_
     exact xE (2 : Int) (rul_y 7 1 hru (decide_eq_true h28))
    ·refine s6 ?_
     refine kJ [(1, _), (5, _), (6, _), (7, _), (8, _), (19, _), (20, _), (21, _)] ?_
     refine s4 ?_
     exact xR (2) ⟨by omega, rul_n 7 1 hru (decide_eq_false h28)⟩ (by omega) (hl := ⟨rfl, rfl, rfl, rfl, rfl, rfl, rfl, (congrArg some (by go_num)), trivial⟩)
   ·refine s2 ?_
    refine aV (vAgg [_, _] rfl rfl rfl (by repeat constructor) rfl) ?_
    refine aW oA (fun b10 hb10 => ?_)
    refine s7 ?_
    refine aV (vAgg [_, _, _, _, _, _, _, _, _] rfl rfl rfl (by repeat constructor) rfl) ?_
    refine aW (ow_callB (ec_valE (args := #[Evv (⟨xteam, xnn, xlate, xshort, xhow⟩ : Th) A2 m.length cap2 rm mv sf]) rfl rfl rfl Cf.h rfl) rfl rfl (fun w hw => line124 (⟨xteam, xnn, xlate, xshort, xhow⟩ : Th) A2 m cap2 rm mv sf w)) (fun _ _ => ?_)
    refine JL_bool (fun h28 => ?_) (fun h28 => ?_)
    ·refine s4 ?_
     refine kJ [(1, _), (5, _), (6, _), (8, _), (10, _)] ?_
     refine s12 ?_
     exact xE (3 : Int) (rul_y 6 2 hru h28)
    ·refine s6 ?_
     refine kJ [(1, _), (5, _), (6, _), (7, _), (8, _), (19, _), (20, _), (21, _)] ?_
     refine s4 ?_
     exact xR (3) ⟨by omega, rul_n 6 2 hru h28⟩ (by omega) (hl := ⟨rfl, rfl, rfl, rfl, rfl, rfl, rfl, (congrArg some (by go_num)), trivial⟩)
   ·refine s2 ?_
    refine aV (vAgg [_, _] rfl rfl rfl (by repeat constructor) rfl) ?_
    refine aW oA (fun b10 hb10 => ?_)
    refine s7 ?_
    refine aV (vAgg [_, _, _, _, _, _, _, _, _] rfl rfl rfl (by repeat constructor) rfl) ?_
    refine aW (ow_callB (ec_valE (args := #[Evv (⟨xteam, xnn, xlate, xshort, xhow⟩ : Th) A2 m.length cap2 rm mv sf, .pointer (some ⟨g2, 0, none⟩)]) rfl rfl rfl Cf.h rfl) rfl rfl (fun w hw => line122 g2 3 (⟨xteam, xnn, xlate, xshort, xhow⟩ : Th) A2 m cap2 rm mv sf w (hw.ok (cellB g2 [.int .i64 3] 3) (by repeat constructor)).1)) (fun _ _ => ?_)
    refine JL_dec (fun h28 => ?_) (fun h28 => ?_)
    ·refine s4 ?_
     refine kJ [(1, _), (5, _), (6, _), (8, _), (10, _)] ?_
     refine s12 ?_
     exact xE (4 : Int) (rul_y 5 3 hru (decide_eq_true h28))
    ·refine s6 ?_
     refine kJ [(1, _), (5, _), (6, _), (7, _), (8, _), (19, _), (20, _), (21, _)] ?_
     refine s4 ?_
     exact xR (4) ⟨by omega, rul_n 5 3 hru (decide_eq_false h28)⟩ (by omega) (hl := ⟨rfl, rfl, rfl, rfl, rfl, rfl, rfl, (congrArg some (by go_num)), trivial⟩)
   ·refine s2 ?_
    refine aV (vAgg [_, _] rfl rfl rfl (by repeat constructor) rfl) ?_
    refine aW oA (fun b10 hb10 => ?_)
    refine s7 ?_
    refine aV (vAgg [_, _, _, _, _, _, _, _, _] rfl rfl rfl (by repeat constructor) rfl) ?_
    refine aW (ow_callB (ec_valE (args := #[Evv (⟨xteam, xnn, xlate, xshort, xhow⟩ : Th) A2 m.length cap2 rm mv sf, .pointer (some ⟨g3, 0, none⟩)]) rfl rfl rfl Cf.h rfl) rfl rfl (fun w hw => line122 g3 2 (⟨xteam, xnn, xlate, xshort, xhow⟩ : Th) A2 m cap2 rm mv sf w (hw.ok (cellB g3 [.int .i64 2] 3) (by repeat constructor)).1)) (fun _ _ => ?_)
    refine JL_dec (fun h28 => ?_) (fun h28 => ?_)
    ·refine s4 ?_
     refine kJ [(1, _), (5, _), (6, _), (8, _), (10, _)] ?_
     refine s12 ?_
     exact xE (5 : Int) (rul_y 4 4 hru (decide_eq_true h28))
    ·refine s6 ?_
     refine kJ [(1, _), (5, _), (6, _), (7, _), (8, _), (19, _), (20, _), (21, _)] ?_
     refine s4 ?_
     exact xR (5) ⟨by omega, rul_n 4 4 hru (decide_eq_false h28)⟩ (by omega) (hl := ⟨rfl, rfl, rfl, rfl, rfl, rfl, rfl, (congrArg some (by go_num)), trivial⟩)
   ·refine s2 ?_
    refine aV (vAgg [_, _] rfl rfl rfl (by repeat constructor) rfl) ?_
    refine aW oA (fun b10 hb10 => ?_)
    refine s7 ?_
    refine aV (vAgg [_, _, _, _, _, _, _, _, _] rfl rfl rfl (by repeat constructor) rfl) ?_
    refine aW (ow_callB (ec_valE (args := #[Evv (⟨xteam, xnn, xlate, xshort, xhow⟩ : Th) A2 m.length cap2 rm mv sf, .pointer (some ⟨g4, 0, none⟩)]) rfl rfl rfl Cf.h rfl) rfl rfl (fun w hw => line122 g4 4 (⟨xteam, xnn, xlate, xshort, xhow⟩ : Th) A2 m cap2 rm mv sf w (hw.ok (cellB g4 [.int .i64 4] 3) (by repeat constructor)).1)) (fun _ _ => ?_)
    refine JL_dec (fun h28 => ?_) (fun h28 => ?_)
    ·refine s4 ?_
     refine kJ [(1, _), (5, _), (6, _), (8, _), (10, _)] ?_
     refine s12 ?_
     exact xE (6 : Int) (rul_y 3 5 hru (decide_eq_true h28))
    ·refine s6 ?_
     refine kJ [(1, _), (5, _), (6, _), (7, _), (8, _), (19, _), (20, _), (21, _)] ?_
     refine s4 ?_
     exact xR (6) ⟨by omega, rul_n 3 5 hru (decide_eq_false h28)⟩ (by omega) (hl := ⟨rfl, rfl, rfl, rfl, rfl, rfl, rfl, (congrArg some (by go_num)), trivial⟩)
   ·refine s2 ?_
    refine aV (vAgg [_, _] rfl rfl rfl (by repeat constructor) rfl) ?_
    refine aW oA (fun b10 hb10 => ?_)
    refine s7 ?_
    refine aV (vAgg [_, _, _, _, _, _, _, _, _] rfl rfl rfl (by repeat constructor) rfl) ?_
    refine aW (ow_callB (ec_valE (args := #[Evv (⟨xteam, xnn, xlate, xshort, xhow⟩ : Th) A2 m.length cap2 rm mv sf]) rfl rfl rfl Cf.h rfl) rfl rfl (fun w hw => line125 (⟨xteam, xnn, xlate, xshort, xhow⟩ : Th) A2 m cap2 rm mv sf w)) (fun _ _ => ?_)
    refine JL_bool (fun h28 => ?_) (fun h28 => ?_)
    ·refine s4 ?_
     refine kJ [(1, _), (5, _), (6, _), (8, _), (10, _)] ?_
     refine s12 ?_
     exact xE (7 : Int) (rul_y 2 6 hru h28)
    ·refine s6 ?_
     refine kJ [(1, _), (5, _), (6, _), (7, _), (8, _), (19, _), (20, _), (21, _)] ?_
     refine s4 ?_
     exact xR (7) ⟨by omega, rul_n 2 6 hru h28⟩ (by omega) (hl := ⟨rfl, rfl, rfl, rfl, rfl, rfl, rfl, (congrArg some (by go_num)), trivial⟩)
   ·refine s2 ?_
    refine aV (vAgg [_, _] rfl rfl rfl (by repeat constructor) rfl) ?_
    refine aW oA (fun b10 hb10 => ?_)
    refine s7 ?_
    refine aV (vAgg [_, _, _, _, _, _, _, _, _] rfl rfl rfl (by repeat constructor) rfl) ?_
    refine aW (ow_callB (ec_valE (args := #[Evv (⟨xteam, xnn, xlate, xshort, xhow⟩ : Th) A2 m.length cap2 rm mv sf]) rfl rfl rfl Cf.h rfl) rfl rfl (fun w hw => line126 (⟨xteam, xnn, xlate, xshort, xhow⟩ : Th) A2 m cap2 rm mv sf w)) (fun _ _ => ?_)
    refine JL_bool (fun h28 => ?_) (fun h28 => ?_)
    ·refine s4 ?_
     refine kJ [(1, _), (5, _), (6, _), (8, _), (10, _)] ?_
     refine s12 ?_
     exact xE (8 : Int) (rul_y 1 7 hru h28)
    ·refine s6 ?_
     refine kJ [(1, _), (5, _), (6, _), (7, _), (8, _), (19, _), (20, _), (21, _)] ?_
     refine s4 ?_
     exact xR (8) ⟨by omega, rul_n 1 7 hru h28⟩ (by omega) (hl := ⟨rfl, rfl, rfl, rfl, rfl, rfl, rfl, (congrArg some (by go_num)), trivial⟩)
   ·refine s2 ?_
    refine aV (vAgg [_, _] rfl rfl rfl (by repeat constructor) rfl) ?_
    refine aW oA (fun b10 hb10 => ?_)
    refine s7 ?_
    refine aV (vAgg [_, _, _, _, _, _, _, _, _] rfl rfl rfl (by repeat constructor) rfl) ?_
    refine aW (ow_callB (ec_valE (args := #[Evv (⟨xteam, xnn, xlate, xshort, xhow⟩ : Th) A2 m.length cap2 rm mv sf]) rfl rfl rfl Cf.h rfl) rfl rfl (fun w hw => line127 (⟨xteam, xnn, xlate, xshort, xhow⟩ : Th) A2 m cap2 rm mv sf w)) (fun _ _ => ?_)
    refine JL_bool (fun h28 => ?_) (fun h28 => ?_)
    ·refine s4 ?_
     refine kJ [(1, _), (5, _), (6, _), (8, _), (10, _)] ?_
     refine s12 ?_
     exact xE (9 : Int) (rul_y 0 8 hru h28)
    ·refine s6 ?_
     refine kJ [(1, _), (5, _), (6, _), (7, _), (8, _), (19, _), (20, _), (21, _)] ?_
     refine s4 ?_
     exact xR (9) ⟨by omega, rul_n 0 8 hru h28⟩ (by omega) (hl := ⟨rfl, rfl, rfl, rfl, rfl, rfl, rfl, (congrArg some (by go_num)), trivial⟩)
  ·refine s8 ?_
   obtain rfl : k = 9 := by omega
   exact xE 0 (show (0 : Int) = rulF (⟨xteam, xnn, xlate, xshort, xhow⟩ : Th) rm mv sf from hru.symm)
 ·rintro r hr
  refine s8 ?_
  refine aS (oS (fun w hw => sortedT l _ w (hrow0.up ET hw.bel) (by omega) hbl hdl)) (fun A34 c34 => ?_)
  refine aP (rp_buildC (fun us => [us.getD 0 undef, us.getD 1 undef]) rfl rfl (fun w => by kernel_rfl)) ?_
  refine aW oA (fun b12 hb12 => ?_)
  refine s12 ?_
  refine kJ [(1, _), (5, _), (6, _), (8, _), (11, _), (12, _), (37, _)] ?_
  refine s2 ?_
  refine JL_dec (fun h45 => ?_) (fun h45 => ?_)
  ·refine s4 ?_
   refine kJ [(5, _), (6, _), (8, _), (11, _)] ?_
   refine s4 ?_
   refine aW (ow_callR (ec_valE (args := #[.slice A2 m.length cap2]) rfl rfl rfl Cf.h rfl) rfl rfl (fun _ => rfl) (fun w hw => as_any m _ w (hrow20.up ET hw.bel) (by omega) hbm hdm)) (fun t49 _ => ?_)
   obtain ⟨A49, c49⟩ := t49
   dsimp only
   refine aW (ow_sliceC (vs := [_, _]) (ty := 175) rfl rfl (by rfl) rfl rfl (fun _ => by kernel_rfl)) (fun b50 hb50 => ?_)
   refine JL_asOwn (b := b50) (kk := 2) (m := 1) (by repeat constructor) rfl (by omega) ?_
   refine aS (oS (fun w hw => distinct_any [(⟨⟨A49, (srt m).length, c49, srt m⟩, false⟩ : Oc)] (.slice (some ⟨b50, 0, none⟩) 1 1) w (own_arr (A := some ⟨b50, 0, none⟩) (c := 1) (ty := 175) (L := [(⟨⟨A49, (srt m).length, c49, srt m⟩, false⟩ : Oc)]) EO hw (by repeat constructor) (Nat.le_of_ble_eq_true rfl)) (fun p hp => by
     simp only [List.mem_cons, List.not_mem_nil, or_false] at hp
     rcases hp with rfl
     ·exact own_arr (A := A49) (c := c49) ET hw (by repeat constructor) (by rw [srt_len]; omega)) (Nat.le_of_ble_eq_true rfl))) (fun A51 c51 => ?_)
   refine s6 ?_
   refine kJ [(6, _), (8, _)] ?_
   refine s6 ?_
   refine JQ_ngR ?_
   refine JR_one rfl (rr_agg (cs := [_, _, _]) rfl Agg.h (Siz.h (k := 3)) (by repeat constructor) (by rfl)) ?_
   have hos : ddP (List.map oP [(⟨⟨A49, (srt m).length, c49, srt m⟩, false⟩ : Oc)]) = outF l m (⟨xteam, xnn, xlate, xshort, xhow⟩ : Th) r := by unfold outF; rw [if_pos h45]; rfl
   have hch : choF (⟨xteam, xnn, xlate, xshort, xhow⟩ : Th) r = -1 := by unfold choF; rw [if_neg (by omega), if_neg (by omega), if_neg (by omega)]
   have hn : ∀ p ∈ [(⟨⟨A49, (srt m).length, c49, srt m⟩, false⟩ : Oc)], p.d.n = p.d.l.length ∧ p.d.l.length ≤ 16 := fun p hp => by
    simp only [List.mem_cons, List.not_mem_nil, or_false] at hp
    rcases hp with rfl <;> exact ⟨rfl, by dsimp only; rw [srt_len]; omega⟩
   intro w' hw
   obtain ⟨h1, h2⟩ := jud_out (L0 := [(⟨⟨A49, (srt m).length, c49, srt m⟩, false⟩ : Oc)]) (A := A51) (c := c51) hw (by repeat constructor) hos hn
   exact ⟨⟨A51, c51, ddO [(⟨⟨A49, (srt m).length, c49, srt m⟩, false⟩ : Oc)]⟩, by rw [← hr]; exact h1, by rw [← hr, hch], h2⟩
  ·refine s7 ?_
   refine JL_dec (fun h54 => ?_) (fun h54 => ?_)
   ·refine s4 ?_
    refine kJ [(6, _), (8, _), (12, _)] ?_
    refine s2 ?_
    refine aW (ow_sliceC (vs := [_, _]) (ty := 175) rfl rfl (by rfl) rfl rfl (fun _ => by kernel_rfl)) (fun b56 hb56 => ?_)
    refine JL_asOwn (b := b56) (kk := 2) (m := 1) (by repeat constructor) rfl (by omega) ?_
    refine aS (oS (fun w hw => distinct_any [(⟨⟨A34, (srt l).length, c34, srt l⟩, true⟩ : Oc)] (.slice (some ⟨b56, 0, none⟩) 1 1) w (own_arr (A := some ⟨b56, 0, none⟩) (c := 1) (ty := 175) (L := [(⟨⟨A34, (srt l).length, c34, srt l⟩, true⟩ : Oc)]) EO hw (by repeat constructor) (Nat.le_of_ble_eq_true rfl)) (fun p hp => by
      simp only [List.mem_cons, List.not_mem_nil, or_false] at hp
      rcases hp with rfl
      ·exact own_arr (A := A34) (c := c34) ET hw (by repeat constructor) (by rw [srt_len]; omega)) (Nat.le_of_ble_eq_true rfl))) (fun A57 c57 => ?_)
    refine s6 ?_
    refine kJ [(6, _), (8, _)] ?_
    refine s6 ?_
    refine JQ_ngR ?_
    refine JR_one rfl (rr_agg (cs := [_, _, _]) rfl Agg.h (Siz.h (k := 3)) (by repeat constructor) (by rfl)) ?_
    have hos : ddP (List.map oP [(⟨⟨A34, (srt l).length, c34, srt l⟩, true⟩ : Oc)]) = outF l m (⟨xteam, xnn, xlate, xshort, xhow⟩ : Th) r := by unfold outF; rw [if_neg h45, if_pos h54]; rfl
    have hch : choF (⟨xteam, xnn, xlate, xshort, xhow⟩ : Th) r = -1 := by unfold choF; rw [if_neg (by omega), if_neg (by omega), if_neg (by omega)]
    have hn : ∀ p ∈ [(⟨⟨A34, (srt l).length, c34, srt l⟩, true⟩ : Oc)], p.d.n = p.d.l.length ∧ p.d.l.length ≤ 16 := fun p hp => by
     simp only [List.mem_cons, List.not_mem_nil, or_false] at hp
     rcases hp with rfl <;> exact ⟨rfl, by dsimp only; rw [srt_len]; omega⟩
    intro w' hw
    obtain ⟨h1, h2⟩ := jud_out (L0 := [(⟨⟨A34, (srt l).length, c34, srt l⟩, true⟩ : Oc)]) (A := A57) (c := c57) hw (by repeat constructor) hos hn
    exact ⟨⟨A57, c57, ddO [(⟨⟨A34, (srt l).length, c34, srt l⟩, true⟩ : Oc)]⟩, by rw [← hr]; exact h1, by rw [← hr, hch], h2⟩
   ·refine s5 ?_
    refine kJ [(1, _), (5, _), (6, _), (8, _), (11, _), (12, _), (37, _)] ?_
    refine s2 ?_
    refine JL_dec (fun h60 => ?_) (fun h60 => ?_)
    ·refine s5 ?_
     refine kJ [(1, _), (5, _), (6, _), (8, _), (11, _)] ?_
     refine s5 ?_
     refine xDx [0, 1, 2, 3, 4, 6, 7, 8, 10, 11, 12, 14, 19, 5, 9, 13, 15, 16, 17, 18, 20, 21, 22] [] [1, 8, 12] [cellB b5 [.int .i64 xteam, .int .i64 xnn, .bool xlate, .bool xshort, .int .i64 xhow, .slice A2 m.length cap2] 26] ?_
     refine s13 ?_
     refine dW rfl (ow_callR (ec_valE (args := #[.slice A l.length cap]) rfl rfl rfl Cf.h rfl) rfl rfl (fun _ => rfl) (fun w hw => as_any l _ w (hrow0.up ET hw.bel) (by omega) hbl hdl)) (fun t67 _ => ?_)
     obtain ⟨A67, c67⟩ := t67
     dsimp only
     refine dW rfl (ow_callR (ec_valE (args := #[.slice A2 m.length cap2]) rfl rfl rfl Cf.h rfl) rfl rfl (fun _ => rfl) (fun w hw => as_any m _ w (hrow20.up ET hw.bel) (by omega) hbm hdm)) (fun t71 _ => ?_)
     obtain ⟨A71, c71⟩ := t71
     dsimp only
     refine dS rfl (oS (fun w hw => CloneT m _ w (hrow20.up ET hw.bel) (by omega))) (fun A75 c75 => ?_)
     refine dW rfl (oM (fun w hw => DeleteFuncT 79 #[.pointer (some ⟨b5, 0, none⟩)] (isB xteam xnn) m A75 c75 w (by omega) (hw.ok (ownB 43 4 A75 m.length c75 (m.flatMap eT)) (by repeat constructor)).1 (hw.newA (A := ownB 43 4 A75 m.length c75 (m.flatMap eT)) (by repeat constructor) rfl).2 (fun s hs W hW => own_any s (⟨xteam, xnn, xlate, xshort, xhow⟩ : Th) A2 m.length cap2 b5 W (hw.keepO (A := ownB 43 4 A75 m.length c75 (m.flatMap eT)) (C := cellB b5 [.int .i64 xteam, .int .i64 xnn, .bool xlate, .bool xshort, .int .i64 xhow, .slice A2 m.length cap2] 26) hW (by repeat constructor) rfl).1))) (fun _ _ => ?_)
     refine dW rfl (ow_callR (ec_valE (args := #[.slice A75 (m.filter (fun s => !isB xteam xnn s)).length c75]) rfl rfl rfl Cf.h rfl) rfl rfl (fun _ => rfl) (fun w hw => as_any (m.filter (fun s => !isB xteam xnn s)) _ w (own_arr (A := A75) (c := c75) ET hw (by repeat constructor) (by omega)) (by omega) hbf hdf)) (fun t78 _ => ?_)
     obtain ⟨A78, c78⟩ := t78
     dsimp only
     refine dW rfl (ow_sliceC (vs := [_, _, _, _, _, _]) (ty := 175) rfl rfl (by rfl) rfl rfl (fun _ => by kernel_rfl)) (fun b79 hb79 => ?_)
     refine dAsOwn (b := b79) (kk := 2) (m := 3) (by repeat constructor) rfl (by omega) ?_
     refine dS rfl (oS (fun w hw => distinct_any [(⟨⟨A67, (srt l).length, c67, srt l⟩, false⟩ : Oc), (⟨⟨A71, (srt m).length, c71, srt m⟩, false⟩ : Oc), (⟨⟨A78, (srt (m.filter (fun s => !isB xteam xnn s))).length, c78, srt (m.filter (fun s => !isB xteam xnn s))⟩, false⟩ : Oc)] (.slice (some ⟨b79, 0, none⟩) 3 3) w (own_arr (A := some ⟨b79, 0, none⟩) (c := 3) (ty := 175) (L := [(⟨⟨A67, (srt l).length, c67, srt l⟩, false⟩ : Oc), (⟨⟨A71, (srt m).length, c71, srt m⟩, false⟩ : Oc), (⟨⟨A78, (srt (m.filter (fun s => !isB xteam xnn s))).length, c78, srt (m.filter (fun s => !isB xteam xnn s))⟩, false⟩ : Oc)]) EO hw (by repeat constructor) (Nat.le_of_ble_eq_true rfl)) (fun p hp => by
       simp only [List.mem_cons, List.not_mem_nil, or_false] at hp
       rcases hp with rfl | rfl | rfl
       ·exact own_arr (A := A67) (c := c67) ET hw (by repeat constructor) (by rw [srt_len]; omega)
       ·exact own_arr (A := A71) (c := c71) ET hw (by repeat constructor) (by rw [srt_len]; omega)
       ·exact own_arr (A := A78) (c := c78) ET hw (by repeat constructor) (by rw [srt_len]; omega)) (Nat.le_of_ble_eq_true rfl))) (fun A80 c80 => ?_)
     refine s7 ?_
     refine kJ [(6, _), (8, _)] ?_
     refine s6 ?_
     refine JQ_ngR ?_
     refine JR_one rfl (rr_agg (cs := [_, _, _]) rfl Agg.h (Siz.h (k := 3)) (by repeat constructor) (by rfl)) ?_
     have hos : ddP (List.map oP [(⟨⟨A67, (srt l).length, c67, srt l⟩, false⟩ : Oc), (⟨⟨A71, (srt m).length, c71, srt m⟩, false⟩ : Oc), (⟨⟨A78, (srt (m.filter (fun s => !isB xteam xnn s))).length, c78, srt (m.filter (fun s => !isB xteam xnn s))⟩, false⟩ : Oc)]) = outF l m (⟨xteam, xnn, xlate, xshort, xhow⟩ : Th) r := by unfold outF; rw [if_neg h45, if_neg h54, if_pos h60]; rfl
     have hch : choF (⟨xteam, xnn, xlate, xshort, xhow⟩ : Th) r = 1 - xteam := by unfold choF; rw [if_pos h60]
     have hn : ∀ p ∈ [(⟨⟨A67, (srt l).length, c67, srt l⟩, false⟩ : Oc), (⟨⟨A71, (srt m).length, c71, srt m⟩, false⟩ : Oc), (⟨⟨A78, (srt (m.filter (fun s => !isB xteam xnn s))).length, c78, srt (m.filter (fun s => !isB xteam xnn s))⟩, false⟩ : Oc)], p.d.n = p.d.l.length ∧ p.d.l.length ≤ 16 := fun p hp => by
      simp only [List.mem_cons, List.not_mem_nil, or_false] at hp
      rcases hp with rfl | rfl | rfl <;> exact ⟨rfl, by dsimp only; rw [srt_len]; omega⟩
     intro w' hw
     obtain ⟨h1, h2⟩ := jud_out (L0 := [(⟨⟨A67, (srt l).length, c67, srt l⟩, false⟩ : Oc), (⟨⟨A71, (srt m).length, c71, srt m⟩, false⟩ : Oc), (⟨⟨A78, (srt (m.filter (fun s => !isB xteam xnn s))).length, c78, srt (m.filter (fun s => !isB xteam xnn s))⟩, false⟩ : Oc)]) (A := A80) (c := c80) hw (by repeat constructor) hos hn
     exact ⟨⟨A80, c80, ddO [(⟨⟨A67, (srt l).length, c67, srt l⟩, false⟩ : Oc), (⟨⟨A71, (srt m).length, c71, srt m⟩, false⟩ : Oc), (⟨⟨A78, (srt (m.filter (fun s => !isB xteam xnn s))).length, c78, srt (m.filter (fun s => !isB xteam xnn s))⟩, false⟩ : Oc)]⟩, by rw [← hr]; exact h1, by rw [← hr, hch], h2⟩
    ·refine s7 ?_
     refine JL_dec (fun h84 => ?_) (fun h84 => ?_)
     ·refine s4 ?_
      refine kJ [(5, _), (6, _), (8, _), (11, _), (12, _)] ?_
      refine xDx [0, 1, 2, 3, 4, 6, 9, 5, 7, 8, 10, 11, 12] [] [1, 4, 6] [cellB b5 [.int .i64 xteam, .int .i64 xnn, .bool xlate, .bool xshort, .int .i64 xhow, .slice A2 m.length cap2] 26, cellB b12 [.slice A34 (srt l).length c34, .bool true] 175] ?_
      refine s7 ?_
      refine dW rfl (ow_callR (ec_valE (args := #[.slice A2 m.length cap2]) rfl rfl rfl Cf.h rfl) rfl rfl (fun _ => rfl) (fun w hw => as_any m _ w (hrow20.up ET hw.bel) (by omega) hbm hdm)) (fun t90 _ => ?_)
      obtain ⟨A90, c90⟩ := t90
      dsimp only
      refine dW rfl (ow_sliceC (vs := [_, _, _, _]) (ty := 175) rfl rfl (by rfl) rfl rfl (fun _ => by kernel_rfl)) (fun b92 hb92 => ?_)
      refine dAsOwn (b := b92) (kk := 2) (m := 2) (by repeat constructor) rfl (by omega) ?_
      refine dS rfl (oS (fun w hw => distinct_any [(⟨⟨A90, (srt m).length, c90, srt m⟩, false⟩ : Oc), (⟨⟨A34, (srt l).length, c34, srt l⟩, true⟩ : Oc)] (.slice (some ⟨b92, 0, none⟩) 2 2) w (own_arr (A := some ⟨b92, 0, none⟩) (c := 2) (ty := 175) (L := [(⟨⟨A90, (srt m).length, c90, srt m⟩, false⟩ : Oc), (⟨⟨A34, (srt l).length, c34, srt l⟩, true⟩ : Oc)]) EO hw (by repeat constructor) (Nat.le_of_ble_eq_true rfl)) (fun p hp => by
        simp only [List.mem_cons, List.not_mem_nil, or_false] at hp
        rcases hp with rfl | rfl
        ·exact own_arr (A := A90) (c := c90) ET hw (by repeat constructor) (by rw [srt_len]; omega)
        ·exact own_arr (A := A34) (c := c34) ET hw (by repeat constructor) (by rw [srt_len]; omega)) (Nat.le_of_ble_eq_true rfl))) (fun A93 c93 => ?_)
      refine s7 ?_
      refine kJ [(6, _), (8, _)] ?_
      refine s6 ?_
      refine JQ_ngR ?_
      refine JR_one rfl (rr_agg (cs := [_, _, _]) rfl Agg.h (Siz.h (k := 3)) (by repeat constructor) (by rfl)) ?_
      have hos : ddP (List.map oP [(⟨⟨A90, (srt m).length, c90, srt m⟩, false⟩ : Oc), (⟨⟨A34, (srt l).length, c34, srt l⟩, true⟩ : Oc)]) = outF l m (⟨xteam, xnn, xlate, xshort, xhow⟩ : Th) r := by unfold outF; rw [if_neg h45, if_neg h54, if_neg h60, if_pos h84]; rfl
      have hch : choF (⟨xteam, xnn, xlate, xshort, xhow⟩ : Th) r = xteam := by unfold choF; rw [if_neg h60, if_pos h84]
      have hn : ∀ p ∈ [(⟨⟨A90, (srt m).length, c90, srt m⟩, false⟩ : Oc), (⟨⟨A34, (srt l).length, c34, srt l⟩, true⟩ : Oc)], p.d.n = p.d.l.length ∧ p.d.l.length ≤ 16 := fun p hp => by
       simp only [List.mem_cons, List.not_mem_nil, or_false] at hp
       rcases hp with rfl | rfl <;> exact ⟨rfl, by dsimp only; rw [srt_len]; omega⟩
      intro w' hw
      obtain ⟨h1, h2⟩ := jud_out (L0 := [(⟨⟨A90, (srt m).length, c90, srt m⟩, false⟩ : Oc), (⟨⟨A34, (srt l).length, c34, srt l⟩, true⟩ : Oc)]) (A := A93) (c := c93) hw (by repeat constructor) hos hn
      exact ⟨⟨A93, c93, ddO [(⟨⟨A90, (srt m).length, c90, srt m⟩, false⟩ : Oc), (⟨⟨A34, (srt l).length, c34, srt l⟩, true⟩ : Oc)]⟩, by rw [← hr]; exact h1, by rw [← hr, hch], h2⟩
     ·refine s5 ?_
      refine kJ [(1, _), (5, _), (6, _), (8, _), (11, _), (37, _)] ?_
      refine s2 ?_
      refine JL_dec (fun h97 => ?_) (fun h97 => ?_)
      ·refine s4 ?_
       refine xDx [0, 1, 2, 3, 4, 5, 7, 8, 12, 6, 9, 10, 11, 13, 14, 15] [] [1, 5] [cellB b5 [.int .i64 xteam, .int .i64 xnn, .bool xlate, .bool xshort, .int .i64 xhow, .slice A2 m.length cap2] 26] ?_
       refine s9 ?_
       refine dW rfl (ow_callR (ec_valE (args := #[.slice A2 m.length cap2]) rfl rfl rfl Cf.h rfl) rfl rfl (fun _ => rfl) (fun w hw => as_any m _ w (hrow20.up ET hw.bel) (by omega) hbm hdm)) (fun t104 _ => ?_)
       obtain ⟨A104, c104⟩ := t104
       dsimp only
       refine dW rfl (ow_callR (ec_valE (args := #[.slice A l.length cap]) rfl rfl rfl Cf.h rfl) rfl rfl (fun _ => rfl) (fun w hw => as_any l _ w (hrow0.up ET hw.bel) (by omega) hbl hdl)) (fun t107 _ => ?_)
       obtain ⟨A107, c107⟩ := t107
       dsimp only
       refine dW rfl (ow_sliceC (vs := [_, _, _, _]) (ty := 175) rfl rfl (by rfl) rfl rfl (fun _ => by kernel_rfl)) (fun b108 hb108 => ?_)
       refine dAsOwn (b := b108) (kk := 2) (m := 2) (by repeat constructor) rfl (by omega) ?_
       refine dS rfl (oS (fun w hw => distinct_any [(⟨⟨A104, (srt m).length, c104, srt m⟩, false⟩ : Oc), (⟨⟨A107, (srt l).length, c107, srt l⟩, false⟩ : Oc)] (.slice (some ⟨b108, 0, none⟩) 2 2) w (own_arr (A := some ⟨b108, 0, none⟩) (c := 2) (ty := 175) (L := [(⟨⟨A104, (srt m).length, c104, srt m⟩, false⟩ : Oc), (⟨⟨A107, (srt l).length, c107, srt l⟩, false⟩ : Oc)]) EO hw (by repeat constructor) (Nat.le_of_ble_eq_true rfl)) (fun p hp => by
         simp only [List.mem_cons, List.not_mem_nil, or_false] at hp
         rcases hp with rfl | rfl
         ·exact own_arr (A := A104) (c := c104) ET hw (by repeat constructor) (by rw [srt_len]; omega)
         ·exact own_arr (A := A107) (c := c107) ET hw (by repeat constructor) (by rw [srt_len]; omega)) (Nat.le_of_ble_eq_true rfl))) (fun A109 c109 => ?_)
       refine s7 ?_
       refine kJ [(6, _), (8, _)] ?_
       refine s6 ?_
       refine JQ_ngR ?_
       refine JR_one rfl (rr_agg (cs := [_, _, _]) rfl Agg.h (Siz.h (k := 3)) (by repeat constructor) (by rfl)) ?_
       have hos : ddP (List.map oP [(⟨⟨A104, (srt m).length, c104, srt m⟩, false⟩ : Oc), (⟨⟨A107, (srt l).length, c107, srt l⟩, false⟩ : Oc)]) = outF l m (⟨xteam, xnn, xlate, xshort, xhow⟩ : Th) r := by unfold outF; rw [if_neg h45, if_neg h54, if_neg h60, if_neg h84, if_pos h97]; rfl
       have hch : choF (⟨xteam, xnn, xlate, xshort, xhow⟩ : Th) r = 1 - xteam := by unfold choF; rw [if_neg h60, if_neg h84, if_pos h97]
       have hn : ∀ p ∈ [(⟨⟨A104, (srt m).length, c104, srt m⟩, false⟩ : Oc), (⟨⟨A107, (srt l).length, c107, srt l⟩, false⟩ : Oc)], p.d.n = p.d.l.length ∧ p.d.l.length ≤ 16 := fun p hp => by
        simp only [List.mem_cons, List.not_mem_nil, or_false] at hp
        rcases hp with rfl | rfl <;> exact ⟨rfl, by dsimp only; rw [srt_len]; omega⟩
       intro w' hw
       obtain ⟨h1, h2⟩ := jud_out (L0 := [(⟨⟨A104, (srt m).length, c104, srt m⟩, false⟩ : Oc), (⟨⟨A107, (srt l).length, c107, srt l⟩, false⟩ : Oc)]) (A := A109) (c := c109) hw (by repeat constructor) hos hn
       exact ⟨⟨A109, c109, ddO [(⟨⟨A104, (srt m).length, c104, srt m⟩, false⟩ : Oc), (⟨⟨A107, (srt l).length, c107, srt l⟩, false⟩ : Oc)]⟩, by rw [← hr]; exact h1, by rw [← hr, hch], h2⟩
      ·refine s4 ?_
       refine kJ [(1, _), (6, _), (8, _), (11, _)] ?_
       refine s3 ?_
       refine aW (ow_callR (ec_valE (args := #[.slice A l.length cap]) rfl rfl rfl Cf.h rfl) rfl rfl (fun _ => rfl) (fun w hw => as_any l _ w (hrow0.up ET hw.bel) (by omega) hbl hdl)) (fun t40 _ => ?_)
       obtain ⟨A40, c40⟩ := t40
       dsimp only
       refine aW (ow_sliceC (vs := [_, _]) (ty := 175) rfl rfl (by rfl) rfl rfl (fun _ => by kernel_rfl)) (fun b41 hb41 => ?_)
       refine JL_asOwn (b := b41) (kk := 2) (m := 1) (by repeat constructor) rfl (by omega) ?_
       refine aS (oS (fun w hw => distinct_any [(⟨⟨A40, (srt l).length, c40, srt l⟩, false⟩ : Oc)] (.slice (some ⟨b41, 0, none⟩) 1 1) w (own_arr (A := some ⟨b41, 0, none⟩) (c := 1) (ty := 175) (L := [(⟨⟨A40, (srt l).length, c40, srt l⟩, false⟩ : Oc)]) EO hw (by repeat constructor) (Nat.le_of_ble_eq_true rfl)) (fun p hp => by
         simp only [List.mem_cons, List.not_mem_nil, or_false] at hp
         rcases hp with rfl
         ·exact own_arr (A := A40) (c := c40) ET hw (by repeat constructor) (by rw [srt_len]; omega)) (Nat.le_of_ble_eq_true rfl))) (fun A42 c42 => ?_)
       refine s6 ?_
       refine kJ [(6, _), (8, _)] ?_
       refine s6 ?_
       refine JQ_ngR ?_
       refine JR_one rfl (rr_agg (cs := [_, _, _]) rfl Agg.h (Siz.h (k := 3)) (by repeat constructor) (by rfl)) ?_
       have hos : ddP (List.map oP [(⟨⟨A40, (srt l).length, c40, srt l⟩, false⟩ : Oc)]) = outF l m (⟨xteam, xnn, xlate, xshort, xhow⟩ : Th) r := by unfold outF; rw [if_neg h45, if_neg h54, if_neg h60, if_neg h84, if_neg h97]; rfl
       have hch : choF (⟨xteam, xnn, xlate, xshort, xhow⟩ : Th) r = -1 := by unfold choF; rw [if_neg h60, if_neg h84, if_neg h97]
       have hn : ∀ p ∈ [(⟨⟨A40, (srt l).length, c40, srt l⟩, false⟩ : Oc)], p.d.n = p.d.l.length ∧ p.d.l.length ≤ 16 := fun p hp => by
        simp only [List.mem_cons, List.not_mem_nil, or_false] at hp
        rcases hp with rfl <;> exact ⟨rfl, by dsimp only; rw [srt_len]; omega⟩
       intro w' hw
       obtain ⟨h1, h2⟩ := jud_out (L0 := [(⟨⟨A40, (srt l).length, c40, srt l⟩, false⟩ : Oc)]) (A := A42) (c := c42) hw (by repeat constructor) hos hn
       exact ⟨⟨A42, c42, ddO [(⟨⟨A40, (srt l).length, c40, srt l⟩, false⟩ : Oc)]⟩, by rw [← hr]; exact h1, by rw [← hr, hch], h2⟩
end Go.Proofs.YtmcpnoailbmkkaaGreatDoor
/- Layer 7: Protected, Judge, Named. -/
namespace Go.Proofs.YtmcpnoailbmkkaaGreatDoor
open Go Go.RowKit Go.Proofs
attribute [local irreducible] J JQ JL JA JD

def whN (p : St → Bool) (l : List St) (k : Nat) : List Int := ((List.range k).filter (fun i => p (l.getD i ⟨0, 0, 0, 0⟩))).map (fun i => ((i : Nat) : Int))
theorem whN_s {p : St → Bool} {l : List St} {k : Nat} {x : St} (hk : k < l.length) (hx : l[k]'hk = x) : whN p l (k + 1) = if p x = true then whN p l k ++ [((k : Nat) : Int)] else whN p l k := by
 unfold whN
 rw [List.range_succ, List.filter_append, List.map_append]
 have e : l.getD k ⟨0, 0, 0, 0⟩ = x := by rw [List.getD_eq_getElem?_getD, List.getElem?_eq_getElem hk, hx]; rfl
 cases h : p x with
 | true => rw [if_pos rfl]; congr 1; rw [List.filter_cons, e, h, if_pos rfl]; rfl
 | false => rw [if_neg (by decide), List.filter_cons, e, h, if_neg (by decide)]; simp
theorem whN_len (p : St → Bool) (l : List St) (k : Nat) : (whN p l k).length ≤ k := by
 unfold whN; rw [List.length_map]; exact Nat.le_trans (List.length_filter_le _ _) (by rw [List.length_range]; exact Nat.le_refl _)
/-- A predicate of stones with what it holds bound ahead of its parameter. -/
def PrF (f : FuncId) (fs : Array Value) (p : St → Bool) (l : List St) (w0 : World) : Prop := ∀ x ∈ l, ∀ W, Below w0.heap.size w0 W → Calls Tryz.prog f (fs ++ #[Stv x] ++ #[]) W (Back (.bool (p x)) W)
set_option maxRecDepth 100000 in
set_option maxHeartbeats 4000000 in
theorem where_any (f : FuncId) (fs : Array Value) (p : St → Bool) (l : List St) (v : Value) (w : World) [hf : Cf Tryz.prog f] (hcl : PrF f fs p l w) (hrow : Arr 4 eT w v l) (hl : l.length ≤ 1000) : Calls Tryz.prog 30 #[v, .func (.func f) fs #[]] w (RetS 3 1 eI (whN p l l.length) w) := by
 have hrow0 := hrow
 obtain ⟨A, cap, rfl, -, ⟨hl9, -⟩, hA⟩ := hrow
 refine J_enter (fun _ => False) (vs := [.slice A l.length cap, .func (.func f) fs #[]]) (k := 22) (l := [(0, .slice A l.length cap), (1, .func (.func f) fs #[])]) Tryz.func30 rfl rfl Tryz.ntmps30 rfl rfl (Wd.start _) ?_
 refine s12 ?_
 refine J_own0 3 1 ?_
 refine s7 ?_
 refine xL (T := Nat × Option Addr × Nat) (fun q => q.1 ≤ l.length) (fun q => [(1, .func (.func f) fs #[]), (5, .slice q.2.1 (whN p l q.1).length q.2.2), (8, .slice A l.length cap), (9, .int .i64 (l.length : Nat)), (10, .int .i64 (q.1 : Nat))]) (fun q => [ownB 3 1 q.2.1 (whN p l q.1).length q.2.2 ((whN p l q.1).flatMap eI)]) (fun q => l.length - q.1) (0, none, 0) (Nat.zero_le _) ?_
 rintro ⟨k, vA, vc⟩ hk
 dsimp only at hk ⊢
 have hwl := whN_len p l k
 refine s3 ?_
 refine JL_dec (fun h11 => ?_) (fun h11 => ?_)
 ·refine s9 ?_
  have hltx : k < l.length := by omega
  obtain ⟨bx, qx, rfl, hh⟩ := hA (by intro e; subst e; simp at hltx)
  obtain ⟨⟨xt, xn, xx, xy⟩, hx⟩ : ∃ y, l[k]'hltx = y := ⟨_, rfl⟩
  have hmx : (⟨xt, xn, xx, xy⟩ : St) ∈ l := by rw [← hx]; exact List.getElem_mem _
  refine s3 ?_
  refine aV (vHoldA (cs := [.int .i64 xt, .int .i64 xn, .int .i64 xx, .int .i64 xy]) ET rfl rfl (fun h => h) hh hltx (by rw [hx]; rfl)) ?_
  refine aW oA (fun b7 hb7 => ?_)
  refine s5 ?_
  refine kJ [(1, _), (5, _), (6, _), (7, _), (8, _), (9, _), (10, _)] ?_
  refine s3 ?_
  refine aW (ow_callB (ec_val rfl rfl rfl Cf.h) rfl rfl (fun w hw => hcl _ hmx w hw.bel)) (fun _ _ => ?_)
  refine JL_bool (fun h17 => ?_) (fun h17 => ?_)
  ·refine s3 ?_
   refine kJ [(1, _), (5, _), (6, _), (8, _), (9, _), (10, _)] ?_
   refine s3 ?_
   refine aW (ow_sliceC (vs := [_]) (ty := 3) rfl rfl (by rfl) rfl rfl (fun _ => by kernel_rfl)) (fun b20 hb20 => ?_)
   refine aS (oApp (sl := 34) EI (((k : Nat) : Int))) (fun A21 c21 => ?_)
   refine s4 ?_
   refine kJ [(1, _), (5, _), (8, _), (9, _), (10, _)] ?_
   refine s4 ?_
   have hs := whN_s (p := p) hltx hx
   rw [if_pos h17] at hs
   exact xR (k + 1, A21, c21) (by dsimp only; omega) (by dsimp only; omega) (hl := ⟨rfl, (by dsimp only; rw [hs]; rfl), rfl, rfl, (congrArg some (by go_num)), trivial⟩) (hH := by (try dsimp only); rw [hs]; repeat constructor)
  ·refine s6 ?_
   refine kJ [(1, _), (5, _), (8, _), (9, _), (10, _)] ?_
   refine s4 ?_
   have hs := whN_s (p := p) hltx hx
   rw [if_neg (by rw [h17]; simp)] at hs
   exact xR (k + 1, vA, vc) (by dsimp only; omega) (by dsimp only; omega) (hl := ⟨rfl, (by dsimp only; rw [hs]; rfl), rfl, rfl, (congrArg some (by go_num)), trivial⟩) (hH := by (try dsimp only); rw [hs]; repeat constructor)
 ·refine s10 ?_
  refine kJ [(5, _)] ?_
  refine s6 ?_
  refine JR_one rfl (rr_tmp rfl) ?_
  intro w' hw
  obtain rfl : k = l.length := by omega
  exact ⟨vA, vc, rfl, hw.pick (by repeat constructor)⟩
/-- What Protected says: no answer, or where stones are protected and fixed. -/
def proE (c : Cd) (n team : Int) (l : List St) : Int := if ccB c = true ∧ chkB l = true ∧ (0 ≤ team ∧ team ≤ 1) then (if 0 ≤ n ∧ n ≤ 16 then 0 else 4) else 2
def RetPr (c : Cd) (n team : Int) (l : List St) (w : World) (e : Ending) (w' : World) : Prop := if proE c n team l = 0 then Ret w (fun _ : Option Addr × Nat × Option Addr × Nat => True) (fun t => .tuple #[.slice t.1 (whN (kpB c n team) l l.length).length t.2.1, .slice t.2.2.1 (whN (fxB c n team) l l.length).length t.2.2.2, .int .i64 0]) (fun t => [ownB 3 1 t.1 (whN (kpB c n team) l l.length).length t.2.1 ((whN (kpB c n team) l l.length).flatMap eI), ownB 3 1 t.2.2.1 (whN (fxB c n team) l l.length).length t.2.2.2 ((whN (fxB c n team) l l.length).flatMap eI)]) e w'
 else Back (.tuple #[.slice none 0 0, .slice none 0 0, .int .i64 (proE c n team l)]) w e w'
set_option maxRecDepth 100000 in
set_option maxHeartbeats 4000000 in
theorem Protected_any (c : Cd) (n team : Int) (l : List St) (v : Value) (w : World) (hrow : Arr 4 eT w v l) : Calls Tryz.prog 7 #[Cdv c, .int .i64 n, .int .i64 team, v] w (RetPr c n team l w) := by
 obtain ⟨kf, kt, ks, ke, kp⟩ := c
 have hrow0 := hrow
 obtain ⟨A, cap, rfl, -, ⟨hl9, -⟩, hA⟩ := hrow
 refine J_enter (fun _ => False) (vs := [.agg #[.int .i64 kf, .int .i64 kt, .int .i64 ks, .int .i64 ke, .bool kp], .int .i64 n, .int .i64 team, .slice A l.length cap]) (k := 38) (l := [(0, .agg #[.int .i64 kf, .int .i64 kt, .int .i64 ks, .int .i64 ke, .bool kp]), (1, .int .i64 n), (2, .int .i64 team), (3, .slice A l.length cap)]) Tryz.func7 rfl rfl Tryz.ntmps7 rfl rfl (Wd.start _) ?_
 refine s2 ?_
 refine aW (oX [_, _, _, _, _]) (fun b4 hb4 => ?_)
 refine s8 ?_
 refine kJ [(1, _), (2, _), (3, _), (4, _)] ?_
 refine s2 ?_
 refine aCB (fun w hw => CheckCode_any (⟨kf, kt, ks, ke, kp⟩ : Cd) w) ?_
 refine JL_bool (fun h14 => ?_) (fun h14 => ?_)
 ·refine s3 ?_
  refine aCB (fun w hw => Check_any l _ w (hrow0.up ET hw.bel)) ?_
  refine JL_bool (fun h18 => ?_) (fun h18 => ?_)
  ·refine s4 ?_
   refine aCB (fun w hw => rwithin _ _ _ w) ?_
   refine JL_dec (fun h23 => ?_) (fun h23 => ?_)
   ·refine s7 ?_
    refine kJ [(1, _), (2, _), (3, _), (4, _)] ?_
    refine s2 ?_
    refine aCB (fun w hw => rwithin _ _ _ w) ?_
    refine JL_dec (fun h28 => ?_) (fun h28 => ?_)
    ·refine s9 ?_
     refine kJ [(1, _), (2, _), (3, _), (4, _)] ?_
     refine s4 ?_
     refine aP (rp_buildC (fun us => [us.getD 0 undef, us.getD 1 undef, us.getD 2 undef]) rfl rfl (fun w => by kernel_rfl)) ?_
     refine aW oA (fun b11 hb11 => ?_)
     refine aW0 (wStore (cs := [_, _, _, _, _, _, _]) rfl rfl rfl rfl rfl rfl rfl (by repeat constructor) rfl rfl) ?_
     refine s3 ?_
     refine kJ [(3, _), (11, _)] ?_
     refine xDx [0, 1, 2, 4, 5, 6, 3, 7, 8, 9, 10] [] [1, 5] [cellB b11 [.int .i64 kf, .int .i64 kt, .int .i64 ks, .int .i64 ke, .bool kp, .int .i64 n, .int .i64 team] 100] ?_
     refine s6 ?_
     refine dS rfl (oS (fun w hw => where_any 31 #[.agg #[.int .i64 kf, .int .i64 kt, .int .i64 ks, .int .i64 ke, .bool kp, .int .i64 n, .int .i64 team]] (kpB (⟨kf, kt, ks, ke, kp⟩ : Cd) n team) l _ w (fun x hx W hW => keeps_any (⟨kf, kt, ks, ke, kp⟩ : Cd) n team x W) (hrow0.up ET hw.bel) (by have := (chk_facts h18).1; omega))) (fun A37 c37 => ?_)
     refine dS rfl (oS (fun w hw => where_any 32 #[.agg #[.int .i64 kf, .int .i64 kt, .int .i64 ks, .int .i64 ke, .bool kp, .int .i64 n, .int .i64 team]] (fxB (⟨kf, kt, ks, ke, kp⟩ : Cd) n team) l _ w (fun x hx W hW => fixes_any (⟨kf, kt, ks, ke, kp⟩ : Cd) n team x W) (hrow0.up ET hw.bel) (by have := (chk_facts h18).1; omega))) (fun A41 c41 => ?_)
     refine s6 ?_
     refine JR_three rfl (rr_tmp rfl) (rr_tmp rfl) (rr_tmp rfl) ?_
     intro w' hw
     have e : proE (⟨kf, kt, ks, ke, kp⟩ : Cd) n team l = 0 := by unfold proE; rw [if_pos ⟨h14, h18, h23⟩, if_pos h28]
     unfold RetPr
     rw [e, if_pos rfl]
     exact ⟨(A37, c37, A41, c41), trivial, rfl, hw.pick (by repeat constructor)⟩
    ·refine s6 ?_
     refine kJ [] ?_
     refine s9 ?_
     refine JR_three rfl (rr_tmp rfl) (rr_tmp rfl) (rr_tmp rfl) ?_
     intro w' hw
     have e : proE (⟨kf, kt, ks, ke, kp⟩ : Cd) n team l = 4 := by unfold proE; rw [if_pos ⟨h14, h18, h23⟩, if_neg h28]
     unfold RetPr
     rw [e, if_neg (by decide)]
     exact ⟨rfl, hw.bel⟩
   ·refine s7 ?_
    refine kJ [] ?_
    refine s9 ?_
    refine JR_three rfl (rr_tmp rfl) (rr_tmp rfl) (rr_tmp rfl) ?_
    intro w' hw
    have e : proE (⟨kf, kt, ks, ke, kp⟩ : Cd) n team l = 2 := by unfold proE; rw [if_neg (fun h => h23 h.2.2)]
    unfold RetPr
    rw [e, if_neg (by decide)]
    exact ⟨rfl, hw.bel⟩
  ·refine s12 ?_
   refine kJ [] ?_
   refine s9 ?_
   refine JR_three rfl (rr_tmp rfl) (rr_tmp rfl) (rr_tmp rfl) ?_
   intro w' hw
   have e : proE (⟨kf, kt, ks, ke, kp⟩ : Cd) n team l = 2 := by unfold proE; rw [if_neg (fun h => by rw [h.2.1] at h18; cases h18)]
   unfold RetPr
   rw [e, if_neg (by decide)]
   exact ⟨rfl, hw.bel⟩
 ·refine s16 ?_
  refine kJ [] ?_
  refine s9 ?_
  refine JR_three rfl (rr_tmp rfl) (rr_tmp rfl) (rr_tmp rfl) ?_
  intro w' hw
  have e : proE (⟨kf, kt, ks, ke, kp⟩ : Cd) n team l = 2 := by unfold proE; rw [if_neg (fun h => by rw [h.1] at h14; cases h14)]
  unfold RetPr
  rw [e, if_neg (by decide)]
  exact ⟨rfl, hw.bel⟩
/-- The rule of a valid throw. -/
def ruleF (c : Cd) (n : Int) (l m : List St) (x : Th) : Int := rulF x (remB c n x.team m l) (movB c n x.team m l) (decide (n < c.s))
def judE (c : Cd) (n : Int) (l m : List St) (x : Th) : Int := if ccB c = true ∧ thrB l m x = true then (if 0 ≤ n ∧ n ≤ 16 then 0 else 4) else 2
def RetJu (c : Cd) (n : Int) (l m : List St) (x : Th) (w : World) (e : Ending) (w' : World) : Prop := if judE c n l m x = 0 then Ret w (OcP (outF l m x (ruleF c n l m x))) (fun t => .tuple #[Ruv (ruleF c n l m x) (choF x (ruleF c n l m x)) t, .int .i64 0]) ocI e w'
 else Back (.tuple #[.agg #[.int .i64 0, .int .i64 0, .slice none 0 0], .int .i64 (judE c n l m x)]) w e w'
theorem thr_parts {l m : List St} {x : Th} (h : thrB l m x = true) : chkB l = true ∧ chkB m = true ∧ (0 ≤ x.team ∧ x.team ≤ 1) ∧ (0 ≤ x.n ∧ x.n ≤ 7) ∧ (0 ≤ x.how ∧ x.how ≤ 4) := by
 unfold thrB thrA at h
 simp only [Bool.and_eq_true, decide_eq_true_eq] at h
 exact ⟨h.1.1.1.1.1.1.1, h.1.1.1.1.1.1.2, h.1.1.1.1.1.2, h.1.1.1.1.2, h.1.1.1.2⟩
set_option maxRecDepth 100000 in
set_option maxHeartbeats 4000000 in
theorem Judge_any (c : Cd) (n : Int) (l m : List St) (x : Th) (v : Value) (A2 : Option Addr) (cap2 : Nat) (w : World) (hrow : Arr 4 eT w v l) (hrow2 : Arr 4 eT w (.slice A2 m.length cap2) m) : Calls Tryz.prog 6 #[Cdv c, .int .i64 n, v, Thv x A2 m.length cap2] w (RetJu c n l m x w) := by
 obtain ⟨kf, kt, ks, ke, kp⟩ := c
 obtain ⟨xteam, xnn, xlate, xshort, xhow⟩ := x
 have hrow0 := hrow
 obtain ⟨A, cap, rfl, -, ⟨hl9, -⟩, hA⟩ := hrow
 have hrow20 := hrow2
 dsimp only [Thv, Cdv]
 refine J_enter (fun _ => False) (vs := [.agg #[.int .i64 kf, .int .i64 kt, .int .i64 ks, .int .i64 ke, .bool kp], .int .i64 n, .slice A l.length cap, .agg #[.int .i64 xteam, .int .i64 xnn, .bool xlate, .bool xshort, .int .i64 xhow, .slice A2 m.length cap2]]) (k := 30) (l := [(0, .agg #[.int .i64 kf, .int .i64 kt, .int .i64 ks, .int .i64 ke, .bool kp]), (1, .int .i64 n), (2, .slice A l.length cap), (3, .agg #[.int .i64 xteam, .int .i64 xnn, .bool xlate, .bool xshort, .int .i64 xhow, .slice A2 m.length cap2])]) Tryz.func6 rfl rfl Tryz.ntmps6 rfl rfl (Wd.start _) ?_
 refine s2 ?_
 refine aW (oX [_, _, _, _, _]) (fun b4 hb4 => ?_)
 refine aW (oX [_, _, _, _, _, _]) (fun b7 hb7 => ?_)
 refine aW oA (fun b8 hb8 => ?_)
 refine s8 ?_
 refine aCB (fun w hw => CheckCode_any (⟨kf, kt, ks, ke, kp⟩ : Cd) w) ?_
 refine JL_bool (fun h12 => ?_) (fun h12 => ?_)
 ·refine s4 ?_
  refine aCB (fun w hw => CheckThrow_any l m (⟨xteam, xnn, xlate, xshort, xhow⟩ : Th) _ A2 cap2 w (hrow0.up ET hw.bel) (hrow20.up ET hw.bel)) ?_
  refine JL_bool (fun h17 => ?_) (fun h17 => ?_)
  ·refine s7 ?_
   refine kJ [(1, _), (2, _), (4, _), (7, _), (8, _)] ?_
   refine s2 ?_
   refine aCB (fun w hw => rwithin _ _ _ w) ?_
   refine JL_dec (fun h23 => ?_) (fun h23 => ?_)
   ·refine s9 ?_
    refine kJ [(1, _), (2, _), (4, _), (7, _), (8, _)] ?_
    refine s5 ?_
    refine aP (rp_buildC (fun us => [us.getD 0 undef, us.getD 1 undef, us.getD 2 undef]) rfl rfl (fun w => by kernel_rfl)) ?_
    refine s2 ?_
    refine aW (oR (fun w hw => judge_any (⟨kf, kt, ks, ke, kp⟩ : Cd) n xteam l m (⟨xteam, xnn, xlate, xshort, xhow⟩ : Th) _ A2 cap2 w (hrow0.up ET hw.bel) (hrow20.up ET hw.bel) (thr_parts h17).1 (thr_parts h17).2.1 (thr_parts h17).2.2.1)) (fun t33 ht33 => ?_)
    refine s5 ?_
    refine JR_two rfl (rr_agg (cs := [_, _, _]) rfl Agg.h (Siz.h (k := 3)) (by repeat constructor) (by rfl)) (rr_tmp rfl) ?_
    intro w' hw
    have e : judE (⟨kf, kt, ks, ke, kp⟩ : Cd) n l m (⟨xteam, xnn, xlate, xshort, xhow⟩ : Th) = 0 := by unfold judE; rw [if_pos ⟨h12, h17⟩, if_pos h23]
    unfold RetJu
    rw [e, if_pos rfl]
    exact ⟨t33, ht33, rfl, hw.pick (by repeat constructor)⟩
   ·refine s6 ?_
    refine kJ [(8, _)] ?_
    refine s1 ?_
    refine aP (rp_buildC (fun us => [.int .i64 0, .int .i64 0, .slice none 0 0]) rfl rfl (fun w => by kernel_rfl)) ?_
    refine s7 ?_
    refine JR_two rfl (rr_agg (cs := [_, _, _]) rfl Agg.h (Siz.h (k := 3)) (by repeat constructor) (by rfl)) (rr_tmp rfl) ?_
    intro w' hw
    have e : judE (⟨kf, kt, ks, ke, kp⟩ : Cd) n l m (⟨xteam, xnn, xlate, xshort, xhow⟩ : Th) = 4 := by unfold judE; rw [if_pos ⟨h12, h17⟩, if_neg h23]
    unfold RetJu
    rw [e, if_neg (by decide)]
    exact ⟨rfl, hw.bel⟩
  ·refine s7 ?_
   refine kJ [(8, _)] ?_
   refine s1 ?_
   refine aP (rp_buildC (fun us => [.int .i64 0, .int .i64 0, .slice none 0 0]) rfl rfl (fun w => by kernel_rfl)) ?_
   refine s7 ?_
   refine JR_two rfl (rr_agg (cs := [_, _, _]) rfl Agg.h (Siz.h (k := 3)) (by repeat constructor) (by rfl)) (rr_tmp rfl) ?_
   intro w' hw
   have e : judE (⟨kf, kt, ks, ke, kp⟩ : Cd) n l m (⟨xteam, xnn, xlate, xshort, xhow⟩ : Th) = 2 := by unfold judE; rw [if_neg (fun h => by rw [h.2] at h17; cases h17)]
   unfold RetJu
   rw [e, if_neg (by decide)]
   exact ⟨rfl, hw.bel⟩
 ·refine s12 ?_
  refine kJ [(8, _)] ?_
  refine s1 ?_
  refine aP (rp_buildC (fun us => [.int .i64 0, .int .i64 0, .slice none 0 0]) rfl rfl (fun w => by kernel_rfl)) ?_
  refine s7 ?_
  refine JR_two rfl (rr_agg (cs := [_, _, _]) rfl Agg.h (Siz.h (k := 3)) (by repeat constructor) (by rfl)) (rr_tmp rfl) ?_
  intro w' hw
  have e : judE (⟨kf, kt, ks, ke, kp⟩ : Cd) n l m (⟨xteam, xnn, xlate, xshort, xhow⟩ : Th) = 2 := by unfold judE; rw [if_neg (fun h => by rw [h.1] at h12; cases h12)]
  unfold RetJu
  rw [e, if_neg (by decide)]
  exact ⟨rfl, hw.bel⟩
end Go.Proofs.YtmcpnoailbmkkaaGreatDoor
/- Groups that grow. Over any program. -/
namespace Go.Proofs.YtmcpnoailbmkkaaGreatDoor
open Go Go.RowKit Go.Proofs Go.Shelf
section
variable {P : Program} {n : Nat} {B : Bs} {Q : Exit → Act → World → Prop} {l : Sl} {H H1 HA HS rows : List It} {ops : Array Oper} {rest : List Oper} {o : Oper} {c : Code} {w w' : World} {x : Operand} {t : TypeId}
theorem Wd.push {A : It} (h : Wd B H w) (hk : Pk (grpB HA :: A :: H1) H) (hr : (HA.all fun A => !A.ro) = true) (hA : A.ro = false) : Wd B (grpB (HA ++ [A]) :: H1) w := by
 have h1 := (h.pick hk).opn (Pk.refl _)
 have e : HA ++ A :: H1 = (HA ++ [A]) ++ H1 := by simp
 rw [e] at h1
 exact h1.close (HA := HA ++ [A]) (H1 := H1) (Pk.refl _) (by rw [List.all_append, hr]; simp [hA])
theorem JQ_push {e : Exit} (HA : List It) (A : It) (hr : (HA.all fun A => !A.ro) = true) (h : JQ n B Q e l (grpB (HA ++ [A]) :: H1)) (hk : Pk (grpB HA :: A :: H1) H := by repeat constructor) (hA : A.ro = false := by rfl) : JQ n B Q e l H := fun a w ha hw => h a w ha (hw.push hk hr hA)
theorem J_grp0 (h : J P n B c Q l (grpB [] :: H)) : J P n B c Q l H := fun a w ha hw => h a w ha (hw.new (Below.refl _ _) ⟨fun _ h => (by cases h), List.Pairwise.nil⟩ (fun _ ⟨_, h, _⟩ => by cases h))
end
end Go.Proofs.YtmcpnoailbmkkaaGreatDoor
/- A range over a function that gives two values. Over any program. -/
namespace Go.Proofs.YtmcpnoailbmkkaaGreatDoor
open Go Go.RowKit Go.Proofs Go.Shelf
section
variable {P : Program} {n : Nat} {B : Bs} {Q : Exit → Act → World → Prop} {l : Sl} {H H' : List It} {c : Code} {w w' : World}
/-- The contract of an iterator f with what it has captured: T the states, Y what it hands out. -/
def Itr2 (P : Program) {T Y : Type} (f : FuncId) (caps : Array Value) (B : Bs) (φ : T → Prop) (HH : T → It → List It) (Yk : T → Y → Prop) (V V2 : Y → Value) (HG : T → Y → It → List It) (Rn : T → T → Prop) (fin ini : T → Prop) : Prop :=
 ∀ (lp : Nat) (X : It) (t0 : T) (W : World), φ t0 → ini t0 → Wd B (HH t0 X) W →
  (∀ t y W1, φ t → Yk t y → Wd B (HG t y X) W1 → ∀ m, YieldAt Fence.wide m P lp #[V y, V2 y] W1 (fun e W2 => e = .returned (.bool true) ∧ ∃ t', Rn t t' ∧ φ t' ∧ Wd B (HH t' X) W2)) →
  Calls P f (#[.func (.yield lp) #[] #[]] ++ caps) W (fun e W' => (∃ v, e = .returned v) ∧ ∃ t, φ t ∧ fin t ∧ Wd B (HH t X) W')
set_option maxHeartbeats 2000000 in
theorem J_range2 {T Y : Type} {g : Operand} {p q : Nat} {assign body : Code} {f : FuncId} {caps : Array Value} [hf : Cf P f] (φ : T → Prop) (HH : T → It → List It) (Yk : T → Y → Prop) (V V2 : Y → Value) (HG : T → Y → It → List It) (Rn : T → T → Prop) (fin ini : T → Prop) {Ds : List Nat} (l1 : Y → Sl)
  (hit : Itr2 P f caps ⟨B.w, B.m, none, []⟩ φ HH Yk V V2 HG Rn fin ini) (t0 : T) (h0 : φ t0) (hi0 : ini t0)
  (has : ∀ lp t y X, φ t → Yk t y → J P n ⟨B.w, B.m, some lp, []⟩ assign (Exit.then (CutP n ⟨B.w, B.m, some lp, []⟩ (fun _ : Unit => True) (fun _ => l1 y) (fun _ => HG t y X)) (fun _ _ _ => False)) ((q, V2 y) :: (p, V y) :: l) (HG t y X))
  (hbd : ∀ lp t y X, φ t → Yk t y → J P n ⟨B.w, B.m, some lp, []⟩ body (Exit.then (CutP n ⟨B.w, B.m, some lp, []⟩ (fun t' => Rn t t' ∧ φ t') (fun _ => []) (fun t' => HH t' X)) (fun _ _ _ => False)) (l1 y) (HG t y X))
  (k : ∀ D t, φ t → fin t → JQ n ⟨B.w, B.m, none, (D :: Ds).map mark⟩ Q .normal l (HH t (defsB (D :: Ds))))
  (hr : B.r = none := by rfl) (hd : B.d = Ds.map mark := by rfl) (hg : evl l g = some (.func (.func f) #[] caps) := by rfl) (hp : Nat.ble n p = false := by rfl) (hq : Nat.ble n q = false := by rfl)
  (hH : Pk (HH t0 (defsB Ds)) H := by repeat constructor) (a1 : ∀ t A C, At A C (HH t A) (HH t C) := by intro t A C; repeat constructor) (a2 : ∀ t y A C, At A C (HG t y A) (HG t y C) := by intro t y A C; repeat constructor) :
  J P n B (.rangeFunc g #[p, q] assign body) Q l H := by
 intro a w ha hw m
 rw [hr]
 have hF := hf.h
 have hw0 : Wd ⟨B.w, B.m, none, []⟩ (HH t0 (defsB Ds)) w := (hw.pick hH).re _ _
 clear hw hH
 refine wpIn_rangeFunc ?_
 intro fn hfn
 obtain ⟨rec, hrec⟩ : ∃ rec : LoopState → Option Code → Loop, rec = fun st pe => { state := st, pending := pe, fn, tmps := a.tmps, params := #[p, q], assign, body, defers := w.heap.size } := ⟨_, rfl⟩
 obtain ⟨W1, hW1⟩ : ∃ W1, (w.alloc (.deferred (some []))).alloc (.loop (rec .ready none)) = W1 := ⟨_, rfl⟩
 have hL1 : W1.heap[w.heap.size + 1]? = some (.loop (rec .ready none)) := by
  rw [← hW1]; have := World.alloc_heap_new (w.alloc (.deferred (some []))) (.loop (rec .ready none)); rwa [World.size_alloc] at this
 have hK1 : W1.heap[w.heap.size]? = some (.deferred (some [])) := by
  rw [← hW1]; exact (Below.heap_alloc _ _ _ (by simp)).trans (World.alloc_heap_new w _)
 have hb1 : Below w.heap.size w W1 := by rw [← hW1]; exact ((Below.refl _ _).alloc (Nat.le_refl _) _).alloc (by simp) _
 have hz1 : W1.heap.size = w.heap.size + 2 := by rw [← hW1]; simp
 have hmem := (a1 t0 (defsB Ds) (defsB Ds)).mem
 have hD0 := hw0.ok _ hmem
 have hnew : w.heap.size ∉ Ds := fun h => Nat.lt_irrefl _ (hD0.2 _ h).2
 have hnew1 : w.heap.size + 1 ∉ Ds := fun h => by have := (hD0.2 _ h).2; omega
 have hw1 : Wd ⟨B.w, B.m, none, []⟩ (HH t0 (loopB (w.heap.size + 1) (rec .ready none) (w.heap.size :: Ds))) W1 := by
  refine hw0.chg (a1 t0 _ _) rfl rfl ⟨hb1.os, hb1.tape, hb1.output, hb1.size, fun b hb _ => hb1.block b hb⟩ ⟨by simp [hnew1], List.nodup_cons.2 ⟨hnew, hD0.1.1⟩, hL1, fun D hD => ?_⟩ (fun b hb => ?_)
  ·rcases List.mem_cons.1 hD with rfl | hD
   ·exact hK1
   ·exact (hb1.block D (hD0.2 D hD).2).trans (hD0.1.2 D hD)
  ·rcases hb with rfl | hb
   ·exact ⟨.inr (by omega), by omega⟩
   ·rcases List.mem_cons.1 hb with rfl | hb
    ·exact ⟨.inr (Nat.le_refl _), by omega⟩
    ·exact ⟨.inl hb, by have := (hD0.2 b hb).2; omega⟩
 refine ⟨w.heap.size + 1, [mark w.heap.size], W1, { target := .fn (.func f) caps, args := #[.func (.yield (w.heap.size + 1)) #[] #[]] }, W1, f,
  #[.func (.yield (w.heap.size + 1)) #[] #[]] ++ caps, W1, ?_, ?_, ?_, ?_, fun h => (by cases h), ?_⟩
 ·rw [← hW1, hrec]; exact run_enterLoop_outer _ _ _ _ _
 ·simp only [resolve, ha.evD hg]
  simp [go_sem]
 ·intro f' _; exact trivial
 ·simp [invoke, go_sem, hF]
 refine (callsIn_wide.2 (hit (w.heap.size + 1) (loopB (w.heap.size + 1) (rec .ready none) (w.heap.size :: Ds)) t0 W1 h0 hi0 hw1 ?_)).mono ?_
 ·intro t y W ht hy hwW m'
  have hX := (hwW.ok _ (a2 t y (loopB (w.heap.size + 1) (rec .ready none) (w.heap.size :: Ds)) (loopB (w.heap.size + 1) (rec .ready none) (w.heap.size :: Ds))).mem).1
  have hl := hX.2.2.1
  have hy1 := run_yield (P := P) (args := #[V y, V2 y]) hl (by rw [hrec]; simp)
  rw [hrec] at hy1
  refine ⟨fn, _, assign, body, hy1, roundIn_of_wpIn trivial ?_⟩
  have hfr : Fr n ((q, V2 y) :: (p, V y) :: l) { tmps := (a.tmps.setIfInBounds p (V y)).setIfInBounds q (V2 y), defers := [] } := by
   have h := (ha.put p (V y) hp).put q (V2 y) hq
   exact ⟨h.size, rfl, h.get⟩
  have hA := has (w.heap.size + 1) t y _ ht hy _ W hfr hwW.un m'
  refine wpIn_mono (Q := NO _) (by simpa [Bs.df, wr, Fence.inRound] using hA) ?_
  intro e a2' w2 hq
  cases e with
  | normal =>
   obtain ⟨_, -, a0, rfl, hf0, hw2⟩ := hq
   have hX2 := (hw2.ok _ (a2 t y (loopB (w.heap.size + 1) (rec .ready none) (w.heap.size :: Ds)) (loopB (w.heap.size + 1) (rec .ready none) (w.heap.size :: Ds))).mem).1
   refine ⟨_, run_beginRound hX2.2.2.1 (by rw [hrec]), ?_⟩
   have hw3 := hw2.loop (L' := { rec .ready none with state := .busy }) (a2 t y _ _)
   refine wpIn_mono (hbd (w.heap.size + 1) t y _ ht hy a0 _ hf0 hw3 m') ?_
   intro e a3 w4 hq
   cases e with
   | normal =>
    obtain ⟨t', ⟨hR, hφ⟩, a4, rfl, -, hw5⟩ := hq
    have hX5 := (hw5.ok _ (a1 t' (loopB (w.heap.size + 1) { rec .ready none with state := .busy } (w.heap.size :: Ds)) (loopB (w.heap.size + 1) { rec .ready none with state := .busy } (w.heap.size :: Ds))).mem).1
    refine ⟨_, _, run_endRound none hX5.2.2.1, rfl, t', hR, hφ, ?_⟩
    have := hw5.loop (L' := rec .ready none) (a1 t' _ _)
    rw [hrec] at this ⊢
    exact this.un
   | _ => exact hq.elim
  | _ => exact hq.elim
 ·rintro e W2 ⟨⟨u, rfl⟩, t, hφ, hfin, hw2⟩
  have hX2 := (hw2.ok _ (a1 t (loopB (w.heap.size + 1) (rec .ready none) (w.heap.size :: Ds)) (loopB (w.heap.size + 1) (rec .ready none) (w.heap.size :: Ds))).mem).1
  refine ⟨none, _, (run_endLoop hX2.2.2.1 (by rw [hrec]; simp)).trans (by rw [hrec]), ?_⟩
  have hw3 := hw2.loop (L' := { rec .ready none with state := .exhausted }) (a1 t _ _)
  have hX3 := (hw3.ok _ (a1 t (loopB (w.heap.size + 1) { rec .ready none with state := .exhausted } (w.heap.size :: Ds)) (loopB (w.heap.size + 1) { rec .ready none with state := .exhausted } (w.heap.size :: Ds))).mem).1
  have hw4 := hw3.turn (a1 t _ (defsB (w.heap.size :: Ds))) (fun h => (by cases h)) ⟨hX3.2.1, hX3.2.2.2⟩ (fun b hb => .inr hb)
  have hk := k w.heap.size t hφ hfin a _ ha (by rw [hrec] at hw4; exact hw4.un)
  show Q .normal _ _
  have e : ({ B.df a with defers := [mark w.heap.size] ++ (B.df a).defers } : Act) = (⟨B.w, B.m, none, (w.heap.size :: Ds).map mark⟩ : Bs).df a := by
   simp [Bs.df, hd]
  rw [e]
  exact hk
variable {ops : Array Oper} {rest : List Oper} {o : Oper}
/-- In a region with a call of yield: a call that leaves all as it lay; yield with two values; what is known. -/
theorem iC {f : FuncId} {args : Array Value} {v : Value} {d : Nat} (he : EC P n l o f args) (hC : ∀ w, Wd B H w → Calls P f args w (fun e w' => e = .returned v ∧ Below w.heap.size w w')) (k : JLi P n B ops Q rest ((d, v) :: l) H) (hnd : isDef o.op = false := by rfl) (hd : o.dst = some d := by rfl) (hW : WN ops n l o true := by exact wAny) (hn : Nat.ble n d = false := by rfl) : JLi P n B ops Q (o :: rest) l H := fun a w ha hw m =>
 wpListIn_step (fun K hK => by
  rw [if_pos (hW.D ha)]
  unfold Oper.wpIn
  refine ⟨fun _ _ => trivial, ?_⟩
  rw [Oper.semAt_plain _ _ _ (fun c hc => by rw [hc] at hnd; cases hnd), show (execOp (B.df a).eval o).run P w = .ok (.enter f args) w from he a w ha]
  refine ⟨fun h => (by cases h), (callsIn_wide (n := m - 1)).2 ((hC w hw).mono ?_)⟩
  rintro e W2 ⟨rfl, hb⟩
  show K ((B.df a).put o.dst v) W2
  rw [hd]
  exact hK _ _ (by rw [Bs.df_put]; exact k _ _ (ha.put d v hn) (hw.up hb) m))
theorem iKT {d : Nat} {p : Prop} [Decidable p] (hp : p) (k : JLi P n B ops Q rest ((d, .bool true) :: l) H) : JLi P n B ops Q rest ((d, .bool (decide p)) :: l) H := fun a w ha hw m => k a w (Fr.known (decide_eq_true hp) ha) hw m
theorem iY2 {T : Type} {φ : T → Prop} {HH : T → List It} {ts : Array TypeId} {x y z : Operand} {lp d : Nat} {v u : Value} (hY : ∀ W, Wd B H W → ∀ m, YieldAt Fence.wide m P lp #[v, u] W (fun e W2 => e = .returned (.bool true) ∧ ∃ t', φ t' ∧ Wd B (HH t') W2))
 (k : ∀ t', φ t' → JLi P n B ops Q rest ((d, .bool true) :: l) (HH t')) (ho : o.op = .call { callee := .value x, args := #[y, z], argTypes := ts } := by rfl) (hx : evl l x = some (.func (.yield lp) #[] #[]) := by rfl) (hy : evl l y = some v := by rfl) (hz : evl l z = some u := by rfl) (hd : o.dst = some d := by rfl) (hW : WN ops n l o true := by exact wAny) (hn : Nat.ble n d = false := by rfl) :
 JLi P n B ops Q (o :: rest) l H := fun a w ha hw m =>
 wpListIn_step (fun K hK => by
  rw [if_pos (hW.D ha)]
  obtain ⟨fn, tmps, assign, body, h1, h2⟩ := hY w hw (m - 1)
  have he : (execOp (B.df a).eval o).run P w = .ok (.round lp fn tmps assign body) w := by
   unfold execOp; rw [ho]
   simp only [resolve, ha.evD hx, List.map_toArray, List.map_cons, List.map_nil]
   simp [Deferred.ofValue, invoke, ha.evD hy, ha.evD hz, h1]
  unfold Oper.wpIn
  refine ⟨fun _ _ => trivial, ?_⟩
  rw [Oper.semAt_plain _ _ _ (fun c hc => by rw [ho] at hc; cases hc), he, Oper.uponIn_round]
  refine ⟨fun h => (by cases h), h2.mono ?_⟩
  rintro e W2 ⟨rfl, t', h3, h4⟩
  show K ((B.df a).put o.dst (.bool true)) W2
  rw [hd]
  exact hK _ _ (by rw [Bs.df_put]; exact k t' h3 _ _ (ha.put d _ hn) h4 m))
theorem YieldAt.mono' {F : Fence} {m : Nat} {P : Program} {l : Nat} {args : Array Value} {W : World} {R R' : Ending → World → Prop} (h : YieldAt F m P l args W R) (hR : ∀ e W, R e W → R' e W) : YieldAt F m P l args W R' := by
 obtain ⟨fn, tmps, assign, body, h1, h2⟩ := h
 exact ⟨fn, tmps, assign, body, h1, h2.mono hR⟩
end
end Go.Proofs.YtmcpnoailbmkkaaGreatDoor
/- Views. Over any program. -/
namespace Go.Proofs.YtmcpnoailbmkkaaGreatDoor
open Go Go.RowKit Go.Proofs Go.Shelf
end Go.Proofs.YtmcpnoailbmkkaaGreatDoor
/- An entry of a map's literal; strings as keys. Over any program. -/
namespace Go.Proofs.YtmcpnoailbmkkaaGreatDoor
open Go Go.RowKit Go.Proofs Go.Shelf Go.ChangeMaps
section
variable {P : Program} {α β : Type} {kt e t : TypeId} {kv : α → Value} {ok : α → Prop} {ev : β → Value} {ed : β → DataW Unit} {z : β} {okE : β → Prop}
variable {n : Nat} {B : Bs} {Q : Exit → Act → World → Prop} {l : Sl} {H H' : List It} {ops : Array Oper} {rest : List Oper} {o : Oper} {x y q : Operand}
end
def okS (s : ByteArray) : Prop := s.size ≤ maxLen
def kS (s : ByteArray) : Value := .string s
theorem KS {P : Program} {t : TypeId} [u : Und P t .string] : KeyL P t kS okS where
 law := Maps.string_keyed u.h
 key := fun x hx => ⟨_, WideMaps.keyOf_string_mk u.h hx⟩
 inj := fun x y h => by simpa [kS] using h
end Go.Proofs.YtmcpnoailbmkkaaGreatDoor
/- Items as one view; one item out of a group. Over any program. -/
namespace Go.Proofs.YtmcpnoailbmkkaaGreatDoor
open Go Go.RowKit Go.Proofs Go.Shelf
theorem Pk.skip (C : It) {l H : List It} (h : Pk l H) : Pk l (C :: H) := by
 induction h with
 | nil H => exact .nil _
 | pick r _ ih => exact .pick (.there C r) ih
section
variable {P : Program} {n : Nat} {B : Bs} {Q : Exit → Act → World → Prop} {l : Sl} {H H1 H2 HA HS rows : List It} {ops : Array Oper} {rest : List Oper} {c : Code} {w : World}
end
end Go.Proofs.YtmcpnoailbmkkaaGreatDoor
/- Operations on bytes; a fact in a drawn region. Over any program. -/
namespace Go.Proofs.YtmcpnoailbmkkaaGreatDoor
open Go Go.RowKit Go.Proofs Go.Shelf
theorem JD_fact {ord : List Nat} {P : Program} {n : Nat} {B : Bs} {ops : Array Oper} {Q : Exit → Act → World → Prop} {ld : List Nat} {H0 : List It} {lx : List Nat} {Hx : List It} {fuel : Nat} {listed : Array Bool} {l : Sl} {H : List It} (h : (∃ w, Wd B H w) → JD ord P n B ops Q ld H0 lx Hx fuel listed l H) : JD ord P n B ops Q ld H0 lx Hx fuel listed l H := by
 unfold JD at h ⊢; exact JA_fact h
section
variable {P : Program} {n : Nat} {l : Sl} {o : Oper} {x y : Operand} {t ty : TypeId}
theorem pNeqB {a b : Bool} [u : Und P t .bool] (ho : o.op = .binOp .neq t x y ty) (hx : evl l x = some (.bool a)) (hy : evl l y = some (.bool b)) : RP P n l o (.bool (decide (a ≠ b))) := rp2 hx hy (fun ρ h1 h2 w => by
 have e : decide (a ≠ b) = !(a == b) := by cases a <;> cases b <;> rfl
 rw [e]
 unfold execOp
 simp only [ho, h1, h2]
 have hu := u.h
 go_simp)
end
end Go.Proofs.YtmcpnoailbmkkaaGreatDoor
/- The smallest functions; sets of strings; predicates. -/
namespace Go.Proofs.YtmcpnoailbmkkaaGreatDoor
open Go Go.RowKit Go.Proofs
attribute [local irreducible] J JQ JL JA JD

@[reducible] instance (priority := high) beqBA : BEq ByteArray := instBEqOfDecidableEq
def eS (x : ByteArray) : List Value := [.string x]
theorem ES : Enc 1 eS := ⟨fun _ => rfl, fun x v h => by simp [eS] at h; subst h; rfl⟩
/-- A predicate, as a closure. -/
def PrC (f : FuncId) (caps : Array Value) (p : ByteArray → Bool) (l : List ByteArray) (w0 : World) : Prop := ∀ x ∈ l, ∀ W, Below w0.heap.size w0 W → Calls Tryz.prog f (#[] ++ #[.string x] ++ caps) W (Back (.bool (p x)) W)
def ixF (p : ByteArray → Bool) : List ByteArray → Nat → Int
 | [], _ => -1
 | x :: l, k => if p x then (k : Nat) else ixF p l (k + 1)
theorem ixF_any (p : ByteArray → Bool) : ∀ (l : List ByteArray) (k : Nat), decide (0 ≤ ixF p l k) = l.any p
 | [], k => by simp [ixF]
 | x :: l, k => by
  unfold ixF
  cases h : p x
  ·rw [if_neg (by simp), ixF_any p l (k + 1)]; simp [h]
  ·rw [if_pos rfl]; simp [h]

set_option maxRecDepth 100000 in
set_option maxHeartbeats 4000000 in
theorem within65 (n a b : Int) (w : World) : Calls Tryz.prog 88 #[.int .i64 n, .int .i64 a, .int .i64 b] w (Back (.bool (decide (a ≤ n ∧ n ≤ b))) w) := by
 refine J_enter (fun _ => False) (vs := [.int .i64 n, .int .i64 a, .int .i64 b]) (k := 12) (l := [(0, .int .i64 n), (1, .int .i64 a), (2, .int .i64 b)]) Tryz.func88 rfl rfl Tryz.ntmps88 rfl rfl (Wd.start _) ?_
 refine s10 ?_
 refine JL_dec (fun h9 => ?_) (fun h9 => ?_)
 ·refine s4 ?_
  refine JL_dec (fun h13 => ?_) (fun h13 => ?_)
  ·refine s5 ?_
   refine JR_one rfl (rr_tmp rfl) ?_
   intro w' hw
   exact ⟨by congr 2; exact (by first | exact (decide_eq_true (by omega)).symm | exact (decide_eq_false (by omega)).symm), hw.bel⟩
  ·refine s5 ?_
   refine JR_one rfl (rr_tmp rfl) ?_
   intro w' hw
   exact ⟨by congr 2; exact (by first | exact (decide_eq_true (by omega)).symm | exact (decide_eq_false (by omega)).symm), hw.bel⟩
 ·refine s9 ?_
  refine JR_one rfl (rr_tmp rfl) ?_
  intro w' hw
  exact ⟨by congr 2; exact (by first | exact (decide_eq_true (by omega)).symm | exact (decide_eq_false (by omega)).symm), hw.bel⟩
set_option maxRecDepth 100000 in
set_option maxHeartbeats 4000000 in
theorem IndexFunc101 (f : FuncId) (caps : Array Value) (p : ByteArray → Bool) (l : List ByteArray) (v : Value) (w : World) [hf : Cf Tryz.prog f] (hcl : PrC f caps p l w) (hrow : Arr 1 eS w v l) : Calls Tryz.prog 209 #[v, .func (.func f) #[] caps] w (Back (.int .i64 (ixF p l 0)) w) := by
 obtain ⟨A, cap, rfl, -, ⟨hl, -⟩, hA⟩ := hrow
 refine J_enter (fun _ => False) (vs := [.slice A l.length cap, .func (.func f) #[] caps]) (k := 17) (l := [(0, .slice A l.length cap), (1, .func (.func f) #[] caps)]) Tryz.func209 rfl rfl Tryz.ntmps209 rfl rfl (Wd.start _) ?_
 refine s14 ?_
 refine xL (T := Nat) (fun k => k ≤ l.length ∧ ixF p l 0 = ixF p (l.drop k) k) (fun k => [(0, .slice A l.length cap), (1, .func (.func f) #[] caps), (7, .int .i64 (l.length : Nat)), (8, .int .i64 (k : Nat))]) (fun k => []) (fun k => l.length - k) 0 ⟨Nat.zero_le _, rfl⟩ ?_
 rintro k ⟨hk, hix⟩
 refine s3 ?_
 refine JL_dec (fun h9 => ?_) (fun h9 => ?_)
 ·refine s15 ?_
  have hlt : k < l.length := by omega
  obtain ⟨b, q, rfl, hh⟩ := hA (by intro e; subst e; simp at hlt)
  obtain ⟨x, hx⟩ : ∃ x, l[k]'hlt = x := ⟨_, rfl⟩
  have hdr : l.drop k = x :: l.drop (k + 1) := by rw [List.drop_eq_getElem_cons hlt, hx]
  have hxm : x ∈ l := by rw [← hx]; exact List.getElem_mem _
  refine s5 ?_
  refine aV (vHold rfl rfl (fun h => h) hh hlt (by omega) (by rw [hx]; rfl)) ?_
  refine aW (ow_callB (ec_val rfl rfl rfl Cf.h) rfl rfl (fun w hw => hcl x hxm w hw.bel)) (fun _ _ => ?_)
  refine JL_bool (fun h16 => ?_) (fun h16 => ?_)
  ·refine s4 ?_
   refine kJ [(5, _)] ?_
   refine s11 ?_
   refine JR_one rfl (rr_tmp rfl) ?_
   intro w' hw
   have e : ixF p l 0 = (k : Nat) := by rw [hix, hdr]; show (if p x = true then _ else _) = _; rw [h16]; rfl
   rw [e]; exact ⟨rfl, hw.bel⟩
  ·refine s6 ?_
   refine kJ [(0, _), (1, _), (7, _), (8, _)] ?_
   refine s4 ?_
   have hn : ixF p l 0 = ixF p (l.drop (k + 1)) (k + 1) := by rw [hix, hdr]; show (if p x = true then _ else _) = _; rw [h16]; rfl
   exact xR (k + 1) ⟨by omega, hn⟩ (by omega)
 ·refine s10 ?_
  refine kJ [] ?_
  refine s5 ?_
  refine JR_one rfl (rr_tmp rfl) ?_
  intro w' hw
  have ek : k = l.length := by omega
  subst ek
  rw [List.drop_length] at hix
  rw [hix]; exact ⟨rfl, hw.bel⟩
theorem PrC.up {f : FuncId} {caps : Array Value} {p : ByteArray → Bool} {l : List ByteArray} {w w1 : World} (h : PrC f caps p l w) (hb : Below w.heap.size w w1) : PrC f caps p l w1 := fun x hx W hW => h x hx W (hb.trans (hW.mono hb.size))
set_option maxRecDepth 100000 in
set_option maxHeartbeats 4000000 in
theorem ContainsFunc81 (f : FuncId) (caps : Array Value) (p : ByteArray → Bool) (l : List ByteArray) (v : Value) (w : World) [hf : Cf Tryz.prog f] (hcl : PrC f caps p l w) (hrow : Arr 1 eS w v l) : Calls Tryz.prog 176 #[v, .func (.func f) #[] caps] w (Back (.bool (l.any p)) w) := by
 obtain ⟨A, cap, rfl⟩ := hrow.form
 refine J_enter (fun _ => False) (vs := [.slice A l.length cap, .func (.func f) #[] caps]) (k := 7) (l := [(0, .slice A l.length cap), (1, .func (.func f) #[] caps)]) Tryz.func176 rfl rfl Tryz.ntmps176 rfl rfl (Wd.start _) ?_
 refine s9 ?_
 refine aCB (fun w hw => IndexFunc101 f caps p l _ w (hcl.up hw.bel) (hrow.up ES hw.bel)) ?_
 refine s5 ?_
 refine JR_one rfl (rr_tmp rfl) ?_
 intro w' hw
 rw [ixF_any]
 exact ⟨rfl, hw.bel⟩
end Go.Proofs.YtmcpnoailbmkkaaGreatDoor
/- Lists of strings and of numbers compared; whether a string is in a list; names, by the document. -/
namespace Go.Proofs.YtmcpnoailbmkkaaGreatDoor
open Go Go.RowKit Go.Proofs
attribute [local irreducible] J JQ JL JA JD

theorem ba_len (s : ByteArray) : s.data.toList.length = s.size := by unfold ByteArray.size; rw [Array.length_toList]
theorem ba_get {s : ByteArray} {i : Nat} (h : i < s.size) : s[i]? = some (s.data.toList[i]'(by rw [ba_len]; exact h)) := by
 rw [getElem?_pos s i h]; rfl
theorem lt_tot : ∀ a b : List UInt8, (Op.bytesLess a b || decide (a = b)) = !Op.bytesLess b a
 | [], [] => rfl
 | [], _ :: _ => rfl
 | _ :: _, [] => rfl
 | x :: a, y :: b => by
  have ih := lt_tot a b
  unfold Op.bytesLess
  rcases Nat.lt_trichotomy x.toNat y.toNat with h | h | h
  ·have h1 : x < y := h
   have h2 : ¬ y < x := fun h' => by have : y.toNat < x.toNat := h'; omega
   have h3 : ¬ y = x := by rintro rfl; omega
   simp [h1, h2, h3]
  ·have h1 : x = y := UInt8.toNat_inj.1 h
   subst h1
   have h2 : ¬ x < x := fun h' => by have : x.toNat < x.toNat := h'; omega
   simpa [h2] using ih
  ·have h1 : y < x := h
   have h2 : ¬ x < y := fun h' => by have : x.toNat < y.toNat := h'; omega
   have h3 : ¬ x = y := by rintro rfl; omega
   simp [h1, h2, h3]
theorem ltS_tot (a b : ByteArray) : (ltS a b || decide (a = b)) = !ltS b a := by
 have := lt_tot a.toList b.toList
 rw [← ba_list]
 unfold ltS
 rw [← this]
 congr 1
 by_cases h : a.toList = b.toList <;> simp [h]
/-- A byte of a name; a name; names that strictly rise. -/
def ncB (c : UInt8) : Bool := decide (97 ≤ c.toNat ∧ c.toNat ≤ 122) || decide (48 ≤ c.toNat ∧ c.toNat ≤ 57) || decide (c.toNat = 45)
def hdB (s : ByteArray) : Bool := match s.data.toList with | [] => false | c :: _ => decide (97 ≤ c.toNat ∧ c.toNat ≤ 122)
def nmB8 (s : ByteArray) : Bool := decide (1 ≤ (s.size : Int) ∧ (s.size : Int) ≤ 32) && hdB s && s.data.toList.all ncB
def risL : Option ByteArray → List ByteArray → Bool
 | _, [] => true
 | p, x :: l => (nmB8 x && match p with | none => true | some y => ltS y x) && risL (some x) l
def prev (l : List ByteArray) (i : Nat) : Option ByteArray := if i = 0 then none else l[i - 1]?
def namesB (l : List ByteArray) (m : Int) : Bool := risL none l && decide ((l.length : Int) ≤ m)
theorem hdB_of {s : ByteArray} {c : UInt8} (h : 0 < s.size) (hc : s.data.toList[0]'(by rw [ba_len]; exact h) = c) : hdB s = decide (97 ≤ c.toNat ∧ c.toNat ≤ 122) := by
 unfold hdB
 have hl := ba_len s
 cases e : s.data.toList with
 | nil => rw [e] at hl; simp at hl; omega
 | cons x r => simp only [e, List.getElem_cons_zero] at hc; subst hc; rfl
set_option maxRecDepth 100000 in
set_option maxHeartbeats 4000000 in
theorem Has22 (l : List ByteArray) (x : ByteArray) (v : Value) (w : World) (hl : Arr 1 eS w v l) : Calls Tryz.prog 14 #[v, .string x] w (Back (.bool (decide (x ∈ l))) w) := by
 obtain ⟨A, cap, rfl, -, ⟨hlb, -⟩, hA⟩ := hl
 refine J_enter (fun _ => False) (vs := [.slice A l.length cap, .string x]) (k := 16) (l := [(0, .slice A l.length cap), (1, .string x)]) Tryz.func14 rfl rfl Tryz.ntmps14 rfl rfl (Wd.start _) ?_
 refine s12 ?_
 refine xL (T := Nat) (fun k => k ≤ l.length ∧ x ∉ l.take k) (fun k => [(0, .slice A l.length cap), (1, .string x), (5, .int .i64 (k : Nat))]) (fun k => []) (fun k => l.length - k) 0 ⟨Nat.zero_le _, by simp⟩ ?_
 rintro k ⟨hk, hno⟩
 refine s7 ?_
 refine JL_dec (fun h9 => ?_) (fun h9 => ?_)
 ·refine s8 ?_
  have hlt : k < l.length := by omega
  obtain ⟨b, p, rfl, hh⟩ := hA (by intro e; subst e; simp at hlt)
  obtain ⟨y, hy⟩ : ∃ y, l[k]'hlt = y := ⟨_, rfl⟩
  refine kJ [(0, _), (1, _), (5, _)] ?_
  refine s4 ?_
  refine aV (vHold rfl rfl (fun h => h) hh hlt (by omega) (by rw [hy]; rfl)) ?_
  refine s2 ?_
  refine JL_dec (fun h17 => ?_) (fun h17 => ?_)
  ·refine s4 ?_
   refine kJ [] ?_
   refine s10 ?_
   refine JR_one rfl (rr_tmp rfl) ?_
   intro w' hw
   exact ⟨by rw [decide_eq_true (show x ∈ l by rw [← h17, ← hy]; exact List.getElem_mem _)], hw.bel⟩
  ·refine s6 ?_
   refine kJ [(0, _), (1, _), (5, _)] ?_
   refine s5 ?_
   have hn : x ∉ l.take (k + 1) := by rw [List.take_succ_eq_append_getElem hlt, hy, List.mem_append, List.mem_singleton]; rintro (h | h); exact hno h; exact h17 h.symm
   exact xR (k + 1) ⟨by omega, hn⟩ (by omega)
 ·refine s9 ?_
  refine kJ [] ?_
  refine s5 ?_
  refine JR_one rfl (rr_tmp rfl) ?_
  intro w' hw
  have ek : k = l.length := by omega
  subst ek
  rw [List.take_length] at hno
  exact ⟨by rw [decide_eq_false hno], hw.bel⟩
end Go.Proofs.YtmcpnoailbmkkaaGreatDoor
/- strings.Trim and strings.TrimRight at an ASCII cutset, laid at this program. -/
namespace Go.Proofs
open Go.Shelf
def Tryz.lays160_ren : Go.Shelf.Ren := ⟨fun | 119 => 247 | 120 => 222 | 137 => 228 | 151 => 183 | 152 => 221 | 160 => 94 | 197 => 182 | 217 => 254 | 224 => 248 | 225 => 249 | 227 => 143 | 228 => 181 | 231 => 141 | 232 => 142 | 233 => 144 | 234 => 145 | 235 => 146 | 236 => 147 | 260 => 220 | 266 => 283 | 271 => 184 | n => n, fun | 0 => 0 | 3 => 3 | 4 => 4 | 5 => 5 | 9 => 9 | 21 => 21 | 46 => 275 | 105 => 281 | 116 => 244 | 117 => 245 | 119 => 345 | 124 => 248 | 138 => 347 | 139 => 348 | n => n, fun | 3 => 1 | 4 => 2 | n => n⟩
theorem Tryz.lays160 : Go.Proofs.Lays.n160 Tryz.prog Tryz.lays160_ren := {
  mixed := by kernel_rfl
  f119 := Tryz.func247.trans (congrArg some (by kernel_rfl))
  f120 := Tryz.func222.trans (congrArg some (by kernel_rfl))
  f137 := Tryz.func228.trans (congrArg some (by kernel_rfl))
  f151 := Tryz.func183.trans (congrArg some (by kernel_rfl))
  f152 := Tryz.func221.trans (congrArg some (by kernel_rfl))
  f160 := Tryz.func94.trans (congrArg some (by kernel_rfl))
  f197 := Tryz.func182.trans (congrArg some (by kernel_rfl))
  f217 := Tryz.func254.trans (congrArg some (by kernel_rfl))
  f224 := Tryz.func248.trans (congrArg some (by kernel_rfl))
  f225 := Tryz.func249.trans (congrArg some (by kernel_rfl))
  f227 := Tryz.func143.trans (congrArg some (by kernel_rfl))
  f228 := Tryz.func181.trans (congrArg some (by kernel_rfl))
  f231 := Tryz.func141.trans (congrArg some (by kernel_rfl))
  f232 := Tryz.func142.trans (congrArg some (by kernel_rfl))
  f233 := Tryz.func144.trans (congrArg some (by kernel_rfl))
  f234 := Tryz.func145.trans (congrArg some (by kernel_rfl))
  f235 := Tryz.func146.trans (congrArg some (by kernel_rfl))
  f236 := Tryz.func147.trans (congrArg some (by kernel_rfl))
  f260 := Tryz.func220.trans (congrArg some (by kernel_rfl))
  f266 := Tryz.func283.trans (congrArg some (by kernel_rfl))
  f271 := Tryz.func184.trans (congrArg some (by kernel_rfl))
  t0 := Tryz.underlying0
  a0 := Tryz.isAgg0
  z0 := Tryz.sizeOf0
  v0 := Tryz.zeroValue0
  t3 := Tryz.underlying3
  a3 := Tryz.isAgg3
  z3 := Tryz.sizeOf3
  v3 := Tryz.zeroValue3
  t4 := Tryz.underlying4
  a4 := Tryz.isAgg4
  z4 := Tryz.sizeOf4
  v4 := Tryz.zeroValue4
  t5 := Tryz.underlying5
  a5 := Tryz.isAgg5
  z5 := Tryz.sizeOf5
  v5 := Tryz.zeroValue5
  t9 := Tryz.underlying9
  a9 := Tryz.isAgg9
  z9 := Tryz.sizeOf9
  v9 := Tryz.zeroValue9
  t21 := Tryz.underlying21
  a21 := Tryz.isAgg21
  z21 := Tryz.sizeOf21
  v21 := Tryz.zeroValue21
  t46 := Tryz.underlying275
  a46 := Tryz.isAgg275
  z46 := Tryz.sizeOf275
  v46 := Tryz.zeroValue275
  t105 := Tryz.underlying281
  a105 := Tryz.isAgg281
  z105 := Tryz.sizeOf281
  v105 := Tryz.zeroValue281
  t116 := Tryz.underlying244
  a116 := Tryz.isAgg244
  z116 := Tryz.sizeOf244
  t117 := Tryz.underlying245
  a117 := Tryz.isAgg245
  z117 := Tryz.sizeOf245
  v117 := Tryz.zeroValue245
  t119 := Tryz.underlying345
  a119 := Tryz.isAgg345
  z119 := Tryz.sizeOf345
  t124 := Tryz.underlying248
  a124 := Tryz.isAgg248
  z124 := Tryz.sizeOf248
  v124 := Tryz.zeroValue248
  t138 := Tryz.underlying347
  a138 := Tryz.isAgg347
  z138 := Tryz.sizeOf347
  v138 := Tryz.zeroValue347
  t139 := Tryz.underlying348
  a139 := Tryz.isAgg348
  z139 := Tryz.sizeOf348
  v139 := Tryz.zeroValue348
  g3 := by kernel_rfl
  g4 := by kernel_rfl }
open Go.RowKit in
theorem Tryz.strings_Trim (s cutset : ByteArray) (w : World) (hs : s.size ≤ 9223372036854775807) (hcs : cutset.size < 4294967281) (hascii : ∀ (j : Nat) b, cutset.data.toList[j]? = some b → b.toNat < 128) :
    Calls Tryz.prog 94 #[.string s, .string cutset] w fun e w' => e = .returned (.string ⟨(Lib.trimS s.data.toList cutset.data.toList).toArray⟩) ∧ Below w.heap.size w w' := Any.strings_Trim_laid Tryz.lays160 (by kernel_rfl) s cutset w hs hcs hascii
end Go.Proofs
/- Names, lists of names, sets, clauses: the program and the document. -/
namespace Go.Proofs.YtmcpnoailbmkkaaGreatDoor
open Go Go.RowKit Go.Proofs
attribute [local irreducible] J JQ JL JA JD

open Go.Shelf
/-- What a name is made of. -/
def cutS : List UInt8 := [97, 98, 99, 100, 101, 102, 103, 104, 105, 106, 107, 108, 109, 110, 111, 112, 113, 114, 115, 116, 117, 118, 119, 120, 121, 122, 48, 49, 50, 51, 52, 53, 54, 55, 56, 57, 45]
theorem cut_iff (c : UInt8) : cutS.contains c = ncB c := by
 have h : ∀ n : Fin 256, cutS.contains (UInt8.ofNat n.1) = ncB (UInt8.ofNat n.1) := by decide +kernel
 have := h ⟨c.toNat, c.toNat_lt⟩
 simpa using this
theorem dw_all {α : Type} (p : α → Bool) : ∀ m : List α, (m.dropWhile p).all p = m.all p
 | [] => rfl
 | x :: m => by
  rw [List.dropWhile_cons]
  cases h : p x
  ·simp [h]
  ·simp [h, dw_all p m]
theorem dw_nil {α : Type} (p : α → Bool) : ∀ m : List α, m.dropWhile p = [] ↔ m.all p = true
 | [] => by simp
 | x :: m => by
  rw [List.dropWhile_cons]
  cases h : p x
  ·simp [h]
  ·simp [h, dw_nil p m]
theorem trim_nil (s : List UInt8) : Lib.trimS s cutS = [] ↔ s.all ncB = true := by
 have e : (cutS.contains ·) = ncB := funext cut_iff
 unfold Lib.trimS Lib.trimLeftS Lib.trimRightS
 rw [e, dw_nil, List.all_reverse, dw_all, List.all_reverse]
theorem cut_ascii (j : Nat) (b : UInt8) (h : (⟨cutS.toArray⟩ : ByteArray).data.toList[j]? = some b) : b.toNat < 128 := by
 have h1 : ∀ c ∈ cutS, c.toNat < 128 := by decide
 exact h1 b (List.mem_of_getElem? h)
/-- A clause: its parts are slices of strings. -/
structure Cl where
 n : ByteArray
 f : Int
 t : Int
 fs : Dv ByteArray
 us : Dv ByteArray
 th : ByteArray
def eC (c : Cl) : List Value := [.string c.n, .int .i64 c.f, .int .i64 c.t, c.fs.v, c.us.v, .string c.th]
abbrev Clv (c : Cl) : Value := .agg #[.string c.n, .int .i64 c.f, .int .i64 c.t, c.fs.v, c.us.v, .string c.th]
theorem EC6 : Enc 6 eC := ⟨fun _ => rfl, fun x v h => by simp [eC, Dv.v] at h; rcases h with rfl | rfl | rfl | rfl | rfl | rfl <;> rfl⟩
structure ClW (w : World) (c : Cl) : Prop where
 fs : Arr 1 eS w c.fs.v c.fs.l
 us : Arr 1 eS w c.us.v c.us.l
 fk : ∀ s ∈ c.fs.l, okS s
 uk : ∀ s ∈ c.us.l, okS s
 nk : okS c.n
 tk : okS c.th
theorem ClW.up {w w' : World} {c : Cl} (h : ClW w c) (hb : Below w.heap.size w w') : ClW w' c := ⟨h.fs.up ES hb, h.us.up ES hb, h.fk, h.uk, h.nk, h.tk⟩
def clB (c : Cl) : Bool := nmB8 c.n && nmB8 c.th && decide (0 ≤ c.f ∧ c.f ≤ c.t) && decide (c.t ≤ 1000) && namesB c.fs.l 8 && namesB c.us.l 8 && !c.fs.l.any (fun x => decide (x ∈ c.us.l))
theorem any_comm (l m : List ByteArray) : l.any (fun x => decide (x ∈ m)) = m.any (fun x => decide (x ∈ l)) := by
 rw [Bool.eq_iff_iff, List.any_eq_true, List.any_eq_true]
 simp only [decide_eq_true_eq]
 exact ⟨fun ⟨x, h1, h2⟩ => ⟨x, h2, h1⟩, fun ⟨x, h1, h2⟩ => ⟨x, h2, h1⟩⟩
theorem dv_nc {w : World} {p : Dv ByteArray} (h : Arr 1 eS w p.v p.l) : p.n = p.l.length := by
 obtain ⟨A, c, e, -⟩ := h
 injection e
set_option maxRecDepth 100000 in
set_option maxHeartbeats 4000000 in
theorem named42 (s : ByteArray) (w : World) (hs : okS s) : Calls Tryz.prog 43 #[.string s] w (Back (.bool (nmB8 s)) w) := by
 refine J_enter (fun _ => False) (vs := [.string s]) (k := 19) (l := [(0, .string s)]) Tryz.func43 rfl rfl Tryz.ntmps43 rfl rfl (Wd.start _) ?_
 refine s7 ?_
 rcases Classical.em (1 ≤ (s.size : Int) ∧ (s.size : Int) ≤ 32) with h0 | h0
 ·obtain ⟨c0, hg0⟩ : ∃ c, s.data.toList[0]'(by rw [ba_len]; omega) = c := ⟨_, rfl⟩
  have hb0 : s[0]? = some c0 := by rw [ba_get (by omega), hg0]
  refine s3 ?_
  refine aCB (fun w hw => within65 _ _ _ w) ?_
  refine aDecT ?_ h0
  refine s3 ?_
  refine aP (pByte (i := 0) (b := c0) rfl rfl rfl hb0) ?_
  refine s1 ?_
  refine JL_dec (fun h10 => ?_) (fun h10 => ?_)
  ·refine s10 ?_
   refine kJ [] ?_
   refine s6 ?_
   refine JR_one rfl (rr_tmp rfl) ?_
   intro w' hw
   have e : nmB8 s = false := by unfold nmB8; rw [hdB_of (by omega) hg0, decide_eq_false (by omega : ¬ (97 ≤ c0.toNat ∧ c0.toNat ≤ 122))]; simp
   rw [e]; exact ⟨rfl, hw.bel⟩
  ·refine s3 ?_
   refine aP (pByte (i := 0) (b := c0) rfl rfl rfl hb0) ?_
   refine s1 ?_
   refine JL_dec (fun h15 => ?_) (fun h15 => ?_)
   ·refine s5 ?_
    refine kJ [] ?_
    refine s6 ?_
    refine JR_one rfl (rr_tmp rfl) ?_
    intro w' hw
    have e : nmB8 s = false := by unfold nmB8; rw [hdB_of (by omega) hg0, decide_eq_false (by omega : ¬ (97 ≤ c0.toNat ∧ c0.toNat ≤ 122))]; simp
    rw [e]; exact ⟨rfl, hw.bel⟩
   ·refine s7 ?_
    refine kJ [(0, _)] ?_
    refine s2 ?_
    refine aCB (fun w hw => Tryz.strings_Trim s ⟨cutS.toArray⟩ w hs (by decide) cut_ascii) ?_
    refine s5 ?_
    refine JR_one rfl (rr_tmp rfl) ?_
    intro w' hw
    have e : nmB8 s = decide ((⟨(Lib.trimS s.data.toList cutS).toArray⟩ : ByteArray) = ⟨#[]⟩) := by
     unfold nmB8
     rw [hdB_of (by omega) hg0, decide_eq_true h0, decide_eq_true (by omega : 97 ≤ c0.toNat ∧ c0.toNat ≤ 122), Bool.eq_iff_iff]
     simp only [Bool.true_and, decide_eq_true_eq]
     rw [← trim_nil]
     constructor
     ·intro h; rw [h]
     ·intro h; injection h with h; simpa using h
    rw [e]; exact ⟨rfl, hw.bel⟩
 ·refine s3 ?_
  refine aCB (fun w hw => within65 _ _ _ w) ?_
  refine aDecF ?_ h0
  refine s15 ?_
  refine kJ [] ?_
  refine s6 ?_
  refine JR_one rfl (rr_tmp rfl) ?_
  intro w' hw
  have e : nmB8 s = false := by unfold nmB8; rw [decide_eq_false h0]; rfl
  rw [e]; exact ⟨rfl, hw.bel⟩
theorem ris_step {l : List ByteArray} {k : Nat} {x : ByteArray} (h : k < l.length) (hx : l[k]'h = x) : risL (prev l k) (l.drop k) = ((nmB8 x && match prev l k with | none => true | some y => ltS y x) && risL (prev l (k + 1)) (l.drop (k + 1))) := by
 rw [List.drop_eq_getElem_cons h, hx]
 have : prev l (k + 1) = some x := by unfold prev; rw [if_neg (by omega), Nat.add_sub_cancel, List.getElem?_eq_getElem h, hx]
 rw [this]; rfl
theorem prev_s {l : List ByteArray} {k : Nat} (h0 : 0 < k) (h : k - 1 < l.length) : prev l k = some (l[k - 1]'h) := by unfold prev; rw [if_neg (by omega), List.getElem?_eq_getElem h]
set_option maxRecDepth 100000 in
set_option maxHeartbeats 4000000 in
theorem rising62 (l : List ByteArray) (m : Int) (v : Value) (w : World) (hl : Arr 1 eS w v l) (hok : ∀ s ∈ l, okS s) : Calls Tryz.prog 89 #[v, .int .i64 m] w (Back (.bool (namesB l m)) w) := by
 obtain ⟨A, cap, rfl, -, ⟨hlb, -⟩, hA⟩ := hl
 refine J_enter (fun _ => False) (vs := [.slice A l.length cap, .int .i64 m]) (k := 33) (l := [(0, .slice A l.length cap), (1, .int .i64 m)]) Tryz.func89 rfl rfl Tryz.ntmps89 rfl rfl (Wd.start _) ?_
 refine s14 ?_
 refine xL (T := Nat) (fun k => k ≤ l.length ∧ risL none l = risL (prev l k) (l.drop k)) (fun k => [(0, .slice A l.length cap), (1, .int .i64 m), (7, .slice A l.length cap), (8, .int .i64 (l.length : Nat)), (9, .int .i64 (k : Nat))]) (fun k => []) (fun k => l.length - k) 0 ⟨Nat.zero_le _, rfl⟩ ?_
 rintro k ⟨hk, hr⟩
 refine s3 ?_
 refine JL_dec (fun h10 => ?_) (fun h10 => ?_)
 ·refine s9 ?_
  have hlt : k < l.length := by omega
  obtain ⟨b, p, rfl, hh⟩ := hA (by intro e; subst e; simp at hlt)
  obtain ⟨y, hy⟩ : ∃ y, l[k]'hlt = y := ⟨_, rfl⟩
  have hym : y ∈ l := by rw [← hy]; exact List.getElem_mem _
  refine s3 ?_
  refine aV (vHold (j := k) rfl rfl (fun h => h) hh hlt (by omega) (by rw [hy]; rfl)) ?_
  refine s5 ?_
  refine kJ [(0, _), (1, _), (5, _), (6, _), (7, _), (8, _), (9, _)] ?_
  refine s2 ?_
  refine aCB (fun w hw => named42 y w (hok y hym)) ?_
  refine JL_bool (fun h15 => ?_) (fun h15 => ?_)
  ·refine s4 ?_
   refine JL_dec (fun h19 => ?_) (fun h19 => ?_)
   ·obtain ⟨z, hz⟩ : ∃ z, l[k - 1]'(by omega) = z := ⟨_, rfl⟩
    refine s5 ?_
    refine aP (pIdxI (k - 1) rfl rfl rfl) ?_
    refine aV (vHold (j := k - 1) rfl rfl (fun h => h) hh (by omega) (by omega) (by rw [hz]; rfl)) ?_
    refine s1 ?_
    refine JL_bool (fun h27 => ?_) (fun h27 => ?_)
    ·refine s6 ?_
     refine kJ [] ?_
     refine s10 ?_
     refine JR_one rfl (rr_tmp rfl) ?_
     intro w' hw
     have hl2 : ltS z y = false := by have := ltS_tot y z; rw [h27] at this; simpa using this
     have e : namesB l m = false := by unfold namesB; rw [hr, ris_step hlt hy, prev_s (by omega) (by omega), hz]; simp [hl2]
     rw [e]; exact ⟨rfl, hw.bel⟩
    ·refine s8 ?_
     refine kJ [(0, _), (1, _), (7, _), (8, _), (9, _)] ?_
     refine s4 ?_
     have hl2 : ltS z y = true := by have := ltS_tot y z; rw [h27] at this; simpa using this
     have hn : risL none l = risL (prev l (k + 1)) (l.drop (k + 1)) := by rw [hr, ris_step hlt hy, prev_s (by omega) (by omega), hz]; simp [h15, hl2]
     exact xR (k + 1) ⟨by omega, hn⟩ (by omega)
   ·refine s16 ?_
    refine kJ [(0, _), (1, _), (7, _), (8, _), (9, _)] ?_
    refine s4 ?_
    have hn : risL none l = risL (prev l (k + 1)) (l.drop (k + 1)) := by rw [hr, ris_step hlt hy, show prev l k = none from by unfold prev; rw [if_pos (by omega)]]; simp [h15]
    exact xR (k + 1) ⟨by omega, hn⟩ (by omega)
  ·refine s18 ?_
   refine kJ [] ?_
   refine s10 ?_
   refine JR_one rfl (rr_tmp rfl) ?_
   intro w' hw
   have e : namesB l m = false := by unfold namesB; rw [hr, ris_step hlt hy, h15]; simp
   rw [e]; exact ⟨rfl, hw.bel⟩
 ·refine s10 ?_
  refine kJ [(0, _), (1, _)] ?_
  refine s9 ?_
  refine JR_one rfl (rr_tmp rfl) ?_
  intro w' hw
  have ek : k = l.length := by omega
  subst ek
  rw [List.drop_length] at hr
  have e : namesB l m = decide ((l.length : Int) ≤ m) := by unfold namesB; rw [hr]; rfl
  rw [e]; exact ⟨rfl, hw.bel⟩
end Go.Proofs.YtmcpnoailbmkkaaGreatDoor
