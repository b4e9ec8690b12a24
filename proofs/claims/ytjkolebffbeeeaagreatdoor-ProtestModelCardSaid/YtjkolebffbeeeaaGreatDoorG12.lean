import Derived.Test.YtjkolebffbeeeaaGreatDoorG11
import Derived.Lib.UnsafeStr
import Derived.Lib.AppendStr
import Derived.Lib.MakeNoZero
import Derived.Laws.IdiomCopy
import Derived.Lib.SliceRun
/- The walk by live slots: two items as one; rows of bytes: strings.Builder's operations. Over any program. -/
namespace Go.Proofs.YtjkolebffbeeeaaGreatDoor
open Go Go.RowKit Go.Proofs
theorem JL_unite {P : Program} {n : Nat} {B : Bs} {Q : Exit → Act → World → Prop} {ops : Array Oper} {rest : List Oper} {l : Sl} {H H2 H1 : List It} (A C : It) (h : JL P n B ops Q rest l (unI C A :: H1)) (r1 : Rm A H H2 := by repeat constructor) (r2 : Rm C H2 H1 := by repeat constructor) (hA : A.ro = false := by rfl) (hC : C.ro = false := by rfl) : JL P n B ops Q rest l H := fun a w ha hw => h a w ha (((Rm.there A r2).pk (r1.pk hw)).unite hC hA)
section
variable {P : Program} {n : Nat} {B : Bs} {l : Sl} {H H' : List It} {o : Oper}
theorem OpW.of_val0 {m : Option It} {T : Type} {φ : T → Prop} {G : T → List It} (hd : o.dst = none) (h : ∀ a w, Fr n l a → Wd B H w → ∃ t w' v, φ t ∧ (execOp a.eval o).run P w = .ok (.value v) w' ∧ Wd B (G t) w' ∧ Rl m w w') : OpW P n B m l H o φ (fun _ => l) G := fun a w K Q ha hw k => by
 obtain ⟨t, w', v, h1, h2, h3, h4⟩ := h a w ha hw
 unfold Oper.wp
 rw [h2]
 show K (a.put o.dst v) w'
 exact k t _ _ h1 (ha.putN o hd _) h3 h4
/-- A store into an element of a row of our own. -/
theorem oStE {α : Type} {k : Nat} {enc : α → List Value} (E : Enc k enc) {t ty : TypeId} {x y : Operand} {b j i m c kk : Nat} {L : List α} {v : Value} (cs : List Value) (r : α) [z : Siz P t kk] (hj : j < L.length) (ho : o.op = .store t x y := by rfl) (hd : o.dst = none := by rfl) (hx : evl l x = some (.pointer (some ⟨b, 0 + j * k + i, none⟩)) := by rfl) (hy : evl l y = some v := by rfl) (hcs : v.cells = cs.toArray := by rfl) (hkk : cs.length = kk := by rfl) (h1 : cs.all (·.oneCell') = true := by rfl)
  (hat : At (ownB ty k (some ⟨b, 0, none⟩) m c (L.flatMap enc)) (ownB ty k (some ⟨b, 0, none⟩) m c ((L.set j r).flatMap enc)) H H' := by repeat constructor) (hi : i + cs.length ≤ k := by decide) (hr : enc r = (enc (L[j]'hj)).take i ++ cs ++ (enc (L[j]'hj)).drop (i + cs.length) := by rfl) :
  OpW P n B (some (ownB ty k (some ⟨b, 0, none⟩) m c (L.flatMap enc))) l H o (fun _ : Unit => True) (fun _ => l) (fun _ => H') := ow_storeE E r ho hd hx hy hcs (by rw [hkk]; exact z.h) h1 hat hj hi hr
theorem zero_cells {z : Value} {zs : List Value} (hz : z.cells = zs.toArray) (h0 : 0 < zs.length) (h1 : zs.all (·.oneCell') = true) (m : Nat) : (Builtin.zeroCells z.cells m).toList.length = m * zs.length ∧ ∀ u ∈ (Builtin.zeroCells z.cells m).toList, u.oneCell' = true := by
 rw [hz]
 refine ⟨by simp [Builtin.zeroCells], fun u hu => ?_⟩
 simp only [Builtin.zeroCells, Array.toList_map, Array.toList_range, List.mem_map, List.mem_range, List.size_toArray] at hu
 obtain ⟨i, -, rfl⟩ := hu
 have hlt : i % zs.length < zs.length := Nat.mod_lt _ h0
 have e : zs.toArray[i % zs.length]! = zs[i % zs.length]'hlt := by rw [getElem!_pos zs.toArray _ (by simpa using hlt)]; simp
 rw [e]
 exact List.all_eq_true.1 h1 _ (List.getElem_mem _)
/-- Truth values compared. -/
theorem pEqlB {t ty : TypeId} {x y : Operand} {a b : Bool} [u : Und P t .bool] (ho : o.op = .binOp .eql t x y ty) (hx : evl l x = some (.bool a)) (hy : evl l y = some (.bool b)) : RP P n l o (.bool (decide (a = b))) := rp2 hx hy (fun ρ h1 h2 w => by
 have e : decide (a = b) = (a == b) := by cases a <;> cases b <;> rfl
 rw [e]
 unfold execOp
 simp only [ho, h1, h2]
 have hu := u.h
 go_simp)
/-- A slice held against nil. -/
theorem pSlNil {t e ty : TypeId} {x : Operand} {A : Option Addr} {m c : Nat} [u : Und P t (.slice e)] (ho : o.op = .binOp .eql t x (.const (.slice none 0 0)) ty) (hx : evl l x = some (.slice A m c)) : RP P n l o (.bool A.isNone) := rp2 hx (y := .const (.slice none 0 0)) rfl (fun ρ h1 h2 w => by
 have hr := Lib.run_eql_slice_nil (P := P) w t e A m c 0 0 u.h
 unfold execOp
 simp [ho, h1, h2, eqGuard, hr])
/-- clear(s[i:]) of a row of our own, of which i elements are looked at from now on. -/
theorem oClr {α : Type} {k : Nat} {enc : α → List Value} (E : Enc k enc) {t e : TypeId} {x : Operand} {g c i m : Nat} (L : List α) {z : Value} (zs : List Value) [u : Und P t (.slice e)] [zr : Zer P e z] (hm0 : m = L.length) (hi : i ≤ L.length) (ho : o.op = .call { callee := .builtin .clear, args := #[x], argTypes := #[t] } := by rfl) (hd : o.dst = none := by rfl)
  (hx : evl l x = some (.slice (if c = i then some ⟨g, 0, none⟩ else (some ⟨g, 0, none⟩ : Option Addr).map (·.add (i * k))) (m - i) (c - i)) := by rfl) (hz : z.cells = zs.toArray := by rfl) (hzk : zs.length = k := by rfl) (hk : 0 < k := by decide) (h1 : zs.all (·.oneCell') = true := by rfl)
  (hat : At (ownB e k (some ⟨g, 0, none⟩) m c (L.flatMap enc)) (ownB e k (some ⟨g, 0, none⟩) i c ((L.take i).flatMap enc)) H H' := by repeat constructor) :
  OpW P n B (some (ownB e k (some ⟨g, 0, none⟩) m c (L.flatMap enc))) l H o (fun _ : Unit => True) (fun _ => l) (fun _ => H') := by
 subst hm0
 exact
 OpW.of_val0 hd (fun a w ha hw => by
  have hown : w.ownsRow 0 e k (.slice (some ⟨g, 0, none⟩) L.length c) L.length (L.flatMap enc) := (hw.ok _ hat.mem).1
  obtain ⟨q1, q2⟩ := hown
  rcases q2 with ⟨e0, -⟩ | ⟨g', cap, cur, e0, q3, q4, q5, q6, q7, q8⟩
  ·cases e0
  injection e0 with e1 e2 e3
  injection e1 with e1
  injection e1 with e1 _ _
  subst e1 e3
  have hlen := flat_len E L
  have hic : i * k ≤ L.length * k := Nat.mul_le_mul_right k hi
  have hnc : L.length * k ≤ c * k := Nat.mul_le_mul_right k q5
  have htk : ∀ cur' : Array Value, cur'.size = cur.size → (∀ q, q < i * k → cur'[q]? = cur[q]?) → cur'.toList.take (i * k) = (L.take i).flatMap enc := by
   intro cur' hs hc
   refine List.ext_getElem? (fun q => ?_)
   have hl2 := flat_len E (L.take i)
   rw [List.length_take, Nat.min_eq_left hi] at hl2
   rw [List.getElem?_take]
   by_cases hq : q < i * k
   ·rw [if_pos hq, Array.getElem?_toList, hc q hq]
    have h2 : (L.flatMap enc)[q]? = cur[q]? := by rw [← q8, List.getElem?_take, if_pos (by omega), Array.getElem?_toList]
    rw [← h2]
    conv => lhs; rw [← List.take_append_drop i L, List.flatMap_append]
    rw [List.getElem?_append_left (by omega)]
   ·rw [if_neg hq, List.getElem?_eq_none (by omega)]
  have hinv : ∀ W, (execOp a.eval o).run P W = ((Builtin.clear_ #[t] o.type #[.slice (if c = i then some ⟨g, 0, none⟩ else (some ⟨g, 0, none⟩ : Option Addr).map (·.add (i * k))) (L.length - i) (c - i)]).run P W).andThen fun v w' => .ok (.value v) w' := fun W => by
   unfold execOp
   simp only [ho, resolve, invoke, builtin, Sem.run_bind, Sem.run_pure, Result.andThen_ok, List.map_toArray, List.map_cons, List.map_nil, ha.ev hx]
  by_cases h0 : L.length - i = 0
  ·have hr : (Builtin.clear_ #[t] o.type #[.slice (if c = i then some ⟨g, 0, none⟩ else (some ⟨g, 0, none⟩ : Option Addr).map (·.add (i * k))) (L.length - i) (c - i)]).run P w = .ok (.tuple #[]) w := by
    rw [h0]
    generalize (if c = i then some ⟨g, 0, none⟩ else (some ⟨g, 0, none⟩ : Option Addr).map (·.add (i * k))) = Y
    cases Y <;> simp [Builtin.clear_, run_underlying u.h]
   refine ⟨(), w, .tuple #[], trivial, by rw [hinv, hr]; rfl, hw.turn hat (fun h => h) ⟨?_, .inr ⟨g, c, cur, rfl, Nat.zero_le _, q4, by omega, q6, q7, htk cur rfl (fun _ _ => rfl)⟩⟩ (fun b hb => hb), ⟨rfl, rfl, rfl, Nat.le_refl _, fun _ _ _ => rfl⟩⟩
   rw [flat_len E, List.length_take, Nat.min_eq_left hi]
  ·have hci : ¬ c = i := by omega
   obtain ⟨z1, z2⟩ := zero_cells hz (by omega) h1 (L.length - i)
   rw [hzk] at z1
   have hmul : i * k + (L.length - i) * k = L.length * k := by rw [← Nat.add_mul]; congr 1; omega
   have hst := run_storeCells_at (P := P) g (i * k) e (Builtin.zeroCells z.cells (L.length - i)).toList 0 cur w q4 (by rw [q7]; omega) z2
   rw [Nat.add_zero] at hst
   obtain ⟨m, hm⟩ : ∃ m, L.length - i = m + 1 := ⟨L.length - i - 1, by omega⟩
   have hr : (Builtin.clear_ #[t] o.type #[.slice (if c = i then some ⟨g, 0, none⟩ else (some ⟨g, 0, none⟩ : Option Addr).map (·.add (i * k))) (L.length - i) (c - i)]).run P w = .ok (.tuple #[]) (w.setRow g (cur.toList.take (i * k) ++ (Builtin.zeroCells z.cells (L.length - i)).toList ++ cur.toList.drop (i * k + (Builtin.zeroCells z.cells (L.length - i)).toList.length)).toArray) := by
    rw [if_neg hci]
    show (Builtin.clear_ #[t] o.type #[.slice (some (Addr.add _ _)) (L.length - i) (c - i)]).run P w = _
    rw [Addr.add_mid, Nat.zero_add, hm]
    rw [hm] at hst
    simp [Builtin.clear_, run_underlying u.h, zr.h, hst]
   have hch : Chg (ownB e k (some ⟨g, 0, none⟩) L.length c (L.flatMap enc)) w (w.setRow g (cur.toList.take (i * k) ++ (Builtin.zeroCells z.cells (L.length - i)).toList ++ cur.toList.drop (i * k + (Builtin.zeroCells z.cells (L.length - i)).toList.length)).toArray) := ⟨rfl, rfl, rfl, by simp [World.setRow], fun k _ hk => setRow_other w g k _ (fun e => hk (by subst e; rfl))⟩
   refine ⟨(), _, .tuple #[], trivial, by rw [hinv, hr]; rfl, hw.chg hat rfl rfl hch ⟨?_, .inr ⟨g, c, _, rfl, Nat.zero_le _, setRow_heap w g _ _ e _ q4, by omega, q6, ?_, htk _ ?_ ?_⟩⟩ (fun b hb => ⟨.inl hb, ?_⟩), hch⟩
   ·rw [flat_len E, List.length_take, Nat.min_eq_left hi]
   ·simp only [List.size_toArray, List.length_append, List.length_take, List.length_drop, z1, Array.length_toList]; omega
   ·simp only [List.size_toArray, List.length_append, List.length_take, List.length_drop, z1, Array.length_toList]; omega
   ·intro q hq
    rw [List.getElem?_toArray, List.append_assoc, List.getElem?_append_left (by rw [List.length_take, Array.length_toList]; omega), List.getElem?_take, if_pos hq, Array.getElem?_toList]
   ·have hb' : (Value.slice (some ⟨g, 0, none⟩) i c).ownBlock = some b := hb
    injection hb' with hb'
    subst hb'
    have := (Array.getElem?_eq_some_iff.1 q4).1
    simpa [World.setRow] using this)
/-! Rows of bytes. -/
theorem ba_sz (s : ByteArray) : s.data.toList.length = s.size := by unfold ByteArray.size; rw [Array.length_toList]
/-- A row of bytes of our own. -/
abbrev bytB (e : TypeId) (A : Option Addr) (c : Nat) (s : ByteArray) : It := ownB e 1 A s.size c (Lib.strCells s)
theorem strCells_app (s t : ByteArray) : Lib.strCells (s ++ t) = Lib.strCells s ++ Lib.strCells t := by
 unfold Lib.strCells; rw [ByteArray.data_append, Array.toList_append, List.map_append]
theorem run_appStr {w : World} {base : Nat} {t u ty e : TypeId} (ht : P.underlying t = some (.slice e)) (hu : P.underlying u = some .string) (hinf : (P.info? e).map (fun i => (i.zero, i.size, i.bytes)) = some (some (.int .u8 0), 1, 1)) {A : Option Addr} {m c : Nat} {xs : List Value} (hown : w.ownsRow base e 1 (.slice A m c) m xs) (s : ByteArray) (hl : m + s.size ≤ 1000000000) (hbase : base ≤ w.heap.size) :
  ∃ A' c' w', (Builtin.append_ #[t, u] ty #[.slice A m c, .string s]).run P w = .ok (.slice A' (m + s.size) c') w' ∧ w'.ownsRow 0 e 1 (.slice A' (m + s.size) c') (m + s.size) (xs ++ Lib.strCells s) ∧ w.grownBy w' (Value.slice A m c).ownBlock ∧ ((Value.slice A' (m + s.size) c').ownBlock = (Value.slice A m c).ownBlock ∨ ∀ b, (Value.slice A' (m + s.size) c').ownBlock = some b → w.heap.size ≤ b) := by
 obtain ⟨i, hi, hz, hs1, hb1⟩ := info_parts hinf
 have weak : ∀ {v' : Value} {n : Nat} {ys : List Value} {w' : World} {b0 : Nat}, w'.ownsRow b0 e 1 v' n ys → w'.ownsRow 0 e 1 v' n ys := fun h => ⟨h.1, h.2.imp_right (fun ⟨g, cap, cur, h1, _, h3⟩ => ⟨g, cap, cur, h1, Nat.zero_le _, h3⟩)⟩
 have form : ∀ {v' : Value} {n : Nat} {ys : List Value} {w' : World} {b0 : Nat}, w'.ownsRow b0 e 1 v' n ys → ∃ A' c', v' = .slice A' n c' := fun h => by
  rcases h.2 with ⟨rfl, rfl⟩ | ⟨g, cap, cur, rfl, -⟩
  ·exact ⟨_, _, rfl⟩
  ·exact ⟨_, _, rfl⟩
 rcases hown.2 with ⟨e1, e2⟩ | ⟨g, cap, cur, e1, hbg, hg, hnc, hcm, hcs, htake⟩
 ·obtain ⟨v', w', h1, h2, h3, h4⟩ := Lib.run_append_own_string (P := P) (ty := ty) w w.heap.size t u e i ht hu hi hz hs1 hb1 (.slice A m c) m xs ⟨hown.1, .inl ⟨e1, e2⟩⟩ s (by unfold maxLen; omega) (by omega) (Nat.le_refl _)
  obtain ⟨A', c', rfl⟩ := form h2
  exact ⟨A', c', w', h1, weak h2, h3, .inr (fun b hb => by
   rcases h2.2 with ⟨e3, -⟩ | ⟨g, cap, cur, e3, h5, -⟩
   ·rw [e3] at hb; cases hb
   ·rw [e3] at hb; injection hb with hb; subst hb; exact h5)⟩
 ·injection e1 with e1 e2 e3
  subst e1 e3
  obtain ⟨v', w', h1, h2, h3, h4⟩ := Lib.run_append_own_string (P := P) (ty := ty) w base t u e i ht hu hi hz hs1 hb1 (.slice (some ⟨g, 0, none⟩) m c) m xs hown s (by unfold maxLen; omega) (by omega) hbase
  obtain ⟨A', c', rfl⟩ := form h2
  refine ⟨A', c', w', h1, weak h2, h3, ?_⟩
  by_cases hroom : m + s.size ≤ c
  ·have hr := Lib.run_append_room_string (P := P) (ty := ty) w t u e i ht hu hi hs1 g m c cur hg s hroom (by omega)
   rw [h1] at hr
   injection hr with hr
   injection hr with hr
   rw [hr]; exact .inl rfl
  ·have hxl : xs.length = m := by simpa using hown.1
   have holds : ∀ j u, xs[j]? = some u → w.cell? ((⟨g, 0, none⟩ : Addr).add j) = some u := hown.cells (g := g) rfl
   have hr := Lib.run_append_grow_string (P := P) (ty := ty) w t u e i (.int .u8 0) ht hu hi hz ⟨g, 0, none⟩ m c xs (by rw [hs1]; simpa using hxl) holds s (by omega) (by omega) (by rw [hb1]; exact growslice_fits (by omega) (by unfold maxLen at hcm; omega))
   rw [h1] at hr
   injection hr with hr
   injection hr with hr
   rw [hr]
   exact .inr (fun b hb => by injection hb with hb; exact Nat.le_of_eq hb)
/-- append(s, t...) of a string's bytes. -/
theorem oAppStr {sl st e : TypeId} {d : Nat} {x y : Operand} {A : Option Addr} {c : Nat} (s t : ByteArray) {G : Option Addr → Nat → List It} [u : Und P sl (.slice e)] [us : Und P st .string] [i : Inf P e (.int .u8 0) 1 1] (hl : s.size + t.size ≤ 1000000000) (ho : o.op = .call { callee := .builtin .append, args := #[x, y], argTypes := #[sl, st] } := by rfl) (hd : o.dst = some d := by rfl) (hn : Nat.ble n d = false := by rfl)
  (hx : evl l x = some (.slice A s.size c) := by rfl) (hy : evl l y = some (.string t) := by rfl) (hat : ∀ A' c', At (bytB e A c s) (bytB e A' c' (s ++ t)) H (G A' c') := by intro A c; repeat constructor) : OpS P n B (some (bytB e A c s)) l H o (fun A' c' => (d, .slice A' (s ++ t).size c') :: l) G :=
 OpW.of_run (T := Option Addr × Nat) (φ := fun _ => True) (G := fun t => G t.1 t.2) hd hn (V := fun q => .slice q.1 (s ++ t).size q.2) (fun a1 w ha hw => by
  have hown : w.ownsRow 0 e 1 (.slice A s.size c) s.size (Lib.strCells s) := (hw.ok _ (hat none 0).mem).1
  obtain ⟨A', c', w', h1, h2, h3, h4⟩ := run_appStr (ty := o.type) u.h us.h i.h hown t hl (Nat.zero_le _)
  rw [← ByteArray.size_append] at h1 h2 h4
  rw [← strCells_app] at h2
  have hc : Chg (bytB e A c s) w w' := ⟨h3.os, h3.tape, h3.output, h3.size, fun b hb hnb => h3.block b hb (fun e => hnb e.symm)⟩
  refine ⟨(A', c'), w', trivial, ?_, hw.chg (hat A' c') rfl rfl hc h2 (fun b hb => ?_), hc⟩
  ·unfold execOp
   simp only [ho, resolve, invoke, builtin, Sem.run_bind, Sem.run_pure, Result.andThen_ok, List.map_toArray, List.map_cons, List.map_nil, ha.ev hx, ha.ev hy, h1]
  ·have hb' : (Value.slice A' (s ++ t).size c').ownBlock = some b := hb
   refine ⟨?_, (World.ownsRow.lt h2 b hb').2⟩
   rcases h4 with h4 | h4
   ·rw [hb'] at h4; exact .inl h4.symm
   ·exact .inr (h4 b hb'))
/-- unsafe.SliceData. -/
theorem pSliceData {t : TypeId} {x : Operand} {A : Option Addr} {m c : Nat} (hc : A = none ∨ c ≠ 0) (ho : o.op = .call { callee := .builtin .unsafeSliceData, args := #[x], argTypes := #[t] } := by rfl) (hx : evl l x = some (.slice A m c) := by rfl) : RP P n l o (.pointer A) := rp1 hx (fun ρ h1 w => by
 have hr : (Builtin.unsafeSliceData_ #[t] o.type #[.slice A m c]).run P w = .ok (.pointer A) w := by
  cases A with
  | none => exact Lib.run_unsafeSliceData_nil w _ _ _ _
  | some a => exact Lib.run_unsafeSliceData_row w _ _ _ _ _ (hc.resolve_left (by simp))
 unfold execOp
 simp only [ho, resolve, invoke, builtin, Sem.run_bind, Sem.run_pure, Result.andThen_ok, List.map_toArray, List.map_cons, List.map_nil, h1, hr])
theorem pCap {t e : TypeId} {x : Operand} {A : Option Addr} {m c : Nat} [u : Und P t (.slice e)] (ho : o.op = .call { callee := .builtin .cap, args := #[x], argTypes := #[t] } := by rfl) (hx : evl l x = some (.slice A m c) := by rfl) : RP P n l o (.int .i64 (c : Nat)) := rp1 hx (fun ρ h1 w => by
 have hr : (Builtin.cap_ #[t] o.type #[.slice A m c]).run P w = .ok (.int .i64 (c : Nat)) w := by simp [Builtin.cap_, run_underlying u.h, goInt]
 unfold execOp
 simp only [ho, resolve, invoke, builtin, Sem.run_bind, Sem.run_pure, Result.andThen_ok, List.map_toArray, List.map_cons, List.map_nil, h1, hr])
theorem pCopy0 {t e : TypeId} {x y : Operand} {A Y : Option Addr} {m c m' c' : Nat} [u : Und P t (.slice e)] (hs : (P.info? e).map (·.size) = some 1) (hm : Nat.min m' m = 0) (ho : o.op = .call { callee := .builtin .copy, args := #[x, y], argTypes := #[t, t] } := by rfl) (hx : evl l x = some (.slice A m c) := by rfl) (hy : evl l y = some (.slice Y m' c') := by rfl) : RP P n l o (.int .i64 0) := rp2 hx hy (fun ρ h1 h2 w => by
 have hr := run_copy_none w t t o.type e A Y m c m' c' u.h hs hm
 unfold execOp
 simp only [ho, resolve, invoke, builtin, Sem.run_bind, Sem.run_pure, Result.andThen_ok, List.map_toArray, List.map_cons, List.map_nil, h1, h2, hr]
 rfl)
/-- unsafe.String over a row of bytes of our own, which nobody writes any more. -/
theorem oUStr {pt it e : TypeId} {d : Nat} {x y : Operand} {A : Option Addr} {c : Nat} (s : ByteArray) {H1 : List It} [u : Und P pt (.pointer e)] (hc1 : P.cellsOf e = 1) (ho : o.op = .call { callee := .builtin .unsafeString, args := #[x, y], argTypes := #[pt, it] } := by rfl) (hd : o.dst = some d := by rfl) (hn : Nat.ble n d = false := by rfl) (hx : evl l x = some (.pointer A) := by rfl) (hy : evl l y = some (.int .i64 (s.size : Nat)) := by rfl) (hs : A = none → s.size = 0)
  (rm : Rm (bytB e A c s) H H1 := by repeat constructor) : OpW P n B (some (bytB e A c s)) l H o (fun _ : Unit => True) (fun _ => (d, .string s) :: l) (fun _ => H1) :=
 OpW.of_run hd hn (V := fun _ => .string s) (fun a1 w ha hw => by
  have hown : w.ownsRow 0 e 1 (.slice A s.size c) s.size (Lib.strCells s) := (hw.ok _ rm.mem).1
  have hrun : ∀ w2 v, (Builtin.unsafeString_ #[pt, it] o.type #[.pointer A, .int .i64 (s.size : Nat)]).run P w = .ok v w2 → (execOp a1.eval o).run P w = .ok (.value v) w2 := fun w2 v hr => by
   unfold execOp
   simp only [ho, resolve, invoke, builtin, Sem.run_bind, Sem.run_pure, Result.andThen_ok, List.map_toArray, List.map_cons, List.map_nil, ha.ev hx, ha.ev hy, hr]
  have hdrop : Wd B H1 w := ⟨hw.os, hw.tape, hw.output, hw.size, hw.block, fun C hC => hw.ok C (rm.sub C hC), (rm.sep (R := sepR) sepR_symm hw.sep).1⟩
  by_cases h0 : s.size = 0
  ·have hse : s = ByteArray.empty := by
    rcases s with ⟨a⟩
    have : a.size = 0 := h0
    rw [Array.size_eq_zero_iff] at this; subst this; rfl
   refine ⟨(), w, trivial, hrun w _ ?_, hdrop, ⟨rfl, rfl, rfl, Nat.le_refl _, fun _ _ _ => rfl⟩⟩
   subst hse
   cases A <;> rfl
  ·obtain ⟨a, rfl⟩ : ∃ a, A = some a := by
    cases A with
    | none => exact absurd (hs rfl) h0
    | some a => exact ⟨a, rfl⟩
   rcases hown.2 with ⟨e1, -⟩ | ⟨g, cap, cur, e1, -, hg, hnc, hcm, hcs, htake⟩
   ·cases e1
   injection e1 with e1 e2 e3
   injection e1 with e1
   subst e1 e3
   have hl := ba_sz s
   have hcell : ∀ j x, s.data.toList[j]? = some x → w.cell? ((⟨g, 0, none⟩ : Addr).add j) = some (.int .u8 x.toNat) := fun j x hx => hown.cells (g := g) rfl j _ (by unfold Lib.strCells; rw [List.getElem?_map, hx]; rfl)
   have hr := Lib.run_unsafeString_row (P := P) w pt it o.type e u.h hc1 g cur.size (by simp [World.shape?, hg]) s.data.toList (by intro e; rw [e] at hl; simp at hl; omega) (by omega) (by unfold maxLen at hcm; omega) hcell
   rw [hl] at hr
   have hfz : ∀ b, b ≠ g → (w.freeze ⟨g, 0, none⟩ s.size).heap[b]? = w.heap[b]? := fun b hb => by
    unfold World.freeze; rw [if_neg h0]
    show (w.heap.modify g _)[b]? = _
    rw [Array.getElem?_modify, if_neg (fun e => hb e.symm)]
   have hch : Chg (bytB e (some ⟨g, 0, none⟩) c s) w (w.freeze ⟨g, 0, none⟩ s.size) := by
    refine ⟨?_, ?_, ?_, ?_, fun b _ hnb => hfz b (fun e => hnb (by subst e; rfl))⟩ <;> unfold World.freeze <;> rw [if_neg h0]
    show w.heap.size ≤ (w.heap.modify g _).size
    rw [Array.size_modify]; exact Nat.le_refl _
   refine ⟨(), _, trivial, hrun _ _ (by simpa using hr), ?_, hch⟩
   have hsep := (rm.sep (R := sepR) sepR_symm hw.sep)
   refine ⟨hch.os.trans hw.os, hch.tape.trans hw.tape, hch.output.trans hw.output, Nat.le_trans hw.size hch.size, fun b h1 h2 => ?_, fun C hC => ?_, hsep.1⟩
   ·rw [hfz b (fun e => ?_)]; exact hw.block b h1 h2
    subst e
    rcases ((hw.ok _ rm.mem).2 b rfl).1 with h | h | h
    ·cases h
    ·exact h2 h
    ·omega
   ·have hC' := hw.ok C (rm.sub C hC)
    have hne : ∀ b, C.foot b → b ≠ g := fun b hb e => by
     subst e
     rcases hsep.2 C hC with ⟨h, -⟩ | h
     ·cases h
     ·exact h b rfl hb
    exact ⟨C.st _ _ (fun b hb => hfz b (hne b hb)) hC'.1, fun b hb => ⟨(hC'.2 b hb).1, Nat.lt_of_lt_of_le (hC'.2 b hb).2 hch.size⟩⟩)
/-- internal/bytealg.MakeNoZero. -/
theorem oMkNZ {t e : TypeId} {d f k : Nat} {x : Operand} {ps ts : Array TypeId} [u : Und P t (.slice e)] (hk : k ≤ 1000000000) (hf : ∀ args w, (callFunc f args).run P w = ((Extern.BytealgMakeNoZero.makeNoZero ps #[t] args).run P w).andThen fun v w' => .ok (.value v) w') (ho : o.op = .call { callee := .value (.func f), args := #[x], argTypes := ts } := by rfl) (hd : o.dst = some d := by rfl) (hn : Nat.ble n d = false := by rfl) (hx : evl l x = some (.int .i64 (k : Nat)) := by rfl) :
  OpW P n B none l H o (fun q : Nat × Nat => k ≤ q.2 ∧ q.2 ≤ maxLen) (fun q => (d, .slice (some ⟨q.1, 0, none⟩) k q.2) :: l) (fun q => bytB e (some ⟨q.1, 0, none⟩) q.2 ⟨#[]⟩ :: H) :=
 OpW.of_run hd hn (V := fun q : Nat × Nat => .slice (some ⟨q.1, 0, none⟩) k q.2) (fun a1 w ha hw => by
  obtain ⟨cs, hrun, hle, hmax⟩ := Lib.run_makeNoZero (P := P) w ps t e u.h k (by omega)
  have hb : Below w.heap.size w (w.drew.drew.alloc (.cells cs e)) := ((Below.refl _ w).drew.drew).alloc (Nat.le_refl _) _
  refine ⟨(w.heap.size, cs.size), _, ⟨hle, hmax (by unfold maxLen; omega)⟩, ?_, hw.new hb ?_ (fun b hb' => ?_), hb⟩
  ·unfold execOp
   simp only [ho, resolve, List.map_toArray, List.map_cons, List.map_nil, ha.ev hx]
   have e1 : (do let d ← Deferred.ofValue (a1.eval (.func f)) #[.int .i64 (k : Nat)]; invoke d.target d.args) = callFunc f #[.int .i64 (k : Nat)] := by
    simp [Deferred.ofValue, Act.eval, invoke]
   rw [e1, hf, hrun]; rfl
  ·exact ⟨rfl, .inr ⟨w.heap.size, cs.size, cs, rfl, Nat.zero_le _, heap_alloc_new w.drew.drew _, Nat.zero_le _, hmax (by unfold maxLen; omega), by rw [Nat.mul_one], by show List.take 0 cs.toList = []; exact List.take_zero⟩⟩
  ·injection hb' with hb'; subst hb'; exact ⟨Nat.le_refl _, by simp⟩)
end
end Go.Proofs.YtjkolebffbeeeaaGreatDoor
