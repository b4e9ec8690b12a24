import Derived.Test.YtjkolebffbeeeaaGreatDoorG10
import Derived.Scope
/- The walk by live slots: appends of whole slices of rows that the function owns. Over any program. -/
namespace Go.Proofs.YtjkolebffbeeeaaGreatDoor
open Go Go.RowKit Go.Proofs
section
variable {P : Program} {n : Nat} {B : Bs} {Q : Exit → Act → World → Prop} {ops : Array Oper} {rest : List Oper} {l : Sl} {H : List It} {o : Oper}
theorem Arr.takeC {α : Type} {k : Nat} {enc : α → List Value} {A : Option Addr} {n c m : Nat} {w : World} {l : List α} (h : Arr k enc w (.slice A n c) l) (hm : m ≤ l.length) : Arr k enc w (.slice A m c) (l.take m) := by
 obtain ⟨A', cap, e, h2, h3, h4⟩ := h
 injection e with e1 e2 e3
 subst e1 e2 e3
 have hl : (l.take m).length = m := by rw [List.length_take]; omega
 refine ⟨A, c, by rw [hl], by omega, ⟨by omega, h3.2⟩, fun hn => ?_⟩
 obtain ⟨b, o, e, hh⟩ := h4 (by intro e; subst e; simp at hn)
 refine ⟨b, o, e, fun j hj i hi => ?_⟩
 rw [List.getElem_take]
 exact hh j (by omega) i hi
theorem Arr.drop {α : Type} {k : Nat} {enc : α → List Value} {A : Option Addr} {n c m : Nat} {w : World} {l : List α} (h : Arr k enc w (.slice A n c) l) (hm : m ≤ l.length) : Arr k enc w (.slice (if c = m then A else A.map (·.add (m * k))) (n - m) (c - m)) (l.drop m) := by
 obtain ⟨A', cap, e, h2, h3, h4⟩ := h
 injection e with e1 e2 e3
 subst e1 e2 e3
 refine ⟨_, c - m, by rw [List.length_drop], by rw [List.length_drop]; omega, ⟨by rw [List.length_drop]; omega, by omega⟩, fun hn => ?_⟩
 have hl : m < l.length := by
  rcases Nat.lt_or_ge m l.length with h | h
  ·exact h
  ·exact absurd (List.drop_eq_nil_of_le h) hn
 obtain ⟨b, o, rfl, hh⟩ := h4 (by intro e; subst e; simp at hl)
 refine ⟨b, o + m * k, by rw [if_neg (by omega)]; show some (Addr.add _ _) = _; rw [Addr.add_mid], fun j hj i hi => ?_⟩
 rw [List.length_drop] at hj
 have := hh (m + j) (by omega) i hi
 rw [List.getElem_drop, ← this, Nat.add_mul, ← Nat.add_assoc]
/-- What is known of a row of our own: its form. -/
theorem own_cn {ty k m c : Nat} {A : Option Addr} {xs : List Value} (hw : ∃ w, Wd B H w) (hm : ownB ty k A m c xs ∈ H) : (m ≤ c ∧ c ≤ maxLen) ∧ (A = none → c = 0) := by
 refine ⟨own_cap hw hm, ?_⟩
 obtain ⟨w, hw⟩ := hw
 have h1 : w.ownsRow 0 ty k (.slice A m c) m xs := (hw.ok _ hm).1
 rcases h1.2 with ⟨e, h0⟩ | ⟨g, cap, cur, hv, -⟩
 ·injection e with e1 e2 e3; exact fun _ => e3
 ·injection hv with e1 e2 e3; intro e; rw [e] at e1; cases e1
theorem own_arr {α : Type} {k : Nat} {enc : α → List Value} (E : Enc k enc) {w : World} {ty c : Nat} {A : Option Addr} {L : List α} (hw : Wd B H w) (hm : ownB ty k A L.length c (L.flatMap enc) ∈ H) (hl : L.length ≤ 9223372036854775807) : Arr k enc w (.slice A L.length c) L := Arr.of_own E (hw.ok _ hm).1 hl
theorem run_append0' {P : Program} {w : World} (sl e ty : TypeId) (A : Option Addr) (m c c' sz : Nat) (ht : P.underlying sl = some (.slice e)) (hs : ∀ w, (sizeOf e).run P w = .ok sz w) (hmc : m ≤ c) : (Builtin.append_ #[sl, sl] ty #[.slice A m c, .slice none 0 c']).run P w = .ok (.slice A m c) w := by
 cases A <;> simp [Builtin.append_, run_underlying ht, hs, Builtin.lenOf, Builtin.firstCells, storeCells, hmc, Sem.run_bind]
theorem ow_appY {α : Type} {k : Nat} {enc : α → List Value} (E : Enc k enc) (hk : 0 < k) {sl e : TypeId} {z : Value} {bytes d : Nat} {x y : Operand} {A Y : Option Addr} {c m c' : Nat} {L M : List α} {G : Option Addr → Nat → List It}
  (ht : P.underlying sl = some (.slice e)) (hinf : (P.info? e).map (fun i => (i.zero, i.size, i.bytes)) = some (some z, k, bytes)) (hzs : z.cells.size = k) (hby : bytes ≤ 128) (hs : ∀ w, (sizeOf e).run P w = .ok k w)
  (ho : o.op = .call { callee := .builtin .append, args := #[x, y], argTypes := #[sl, sl] }) (hd : o.dst = some d) (hn : Nat.ble n d = false) (hx : evl l x = some (.slice A L.length c)) (hy : evl l y = some (.slice Y m c')) (hm : m = M.length) (hLc : L.length ≤ c)
  (hnews : ∀ w, Wd B H w → Arr k enc w (.slice Y m c') M) (hl : L.length + M.length ≤ 1000000)
  (hat : ∀ A' c', At (ownB e k A L.length c (L.flatMap enc)) (ownB e k A' (L ++ M).length c' ((L ++ M).flatMap enc)) H (G A' c')) : OpS P n B (some (ownB e k A L.length c (L.flatMap enc))) l H o (fun A' c' => (d, .slice A' (L ++ M).length c') :: l) G := by
 cases Y with
 | some a => exact ow_appX E hk ht hinf hzs hby hs ho hd hn hx hy hm (fun h => (by cases h)) hLc hnews hl hat
 | none =>
  refine OpW.of_run (T := Option Addr × Nat) (φ := fun _ => True) (G := fun t => G t.1 t.2) hd hn (V := fun t => .slice t.1 (L ++ M).length t.2) (fun a1 w ha hw => ?_)
  have hM : M = [] := by
   obtain ⟨A', cap, e, -, -, h4⟩ := hnews w hw
   injection e with e1
   cases M with
   | nil => rfl
   | cons u M =>
    obtain ⟨b, q, e2, -⟩ := h4 (by simp)
    rw [← e1] at e2; cases e2
  subst hM
  have hat' := hat A c
  rw [List.append_nil] at hat'
  refine ⟨(A, c), w, trivial, ?_, ?_, ⟨rfl, rfl, rfl, Nat.le_refl _, fun _ _ _ => rfl⟩⟩
  ·subst hm
   rw [List.append_nil]
   exact run_append_op ho (ha.ev hx) (ha.ev hy) (run_append0' sl e o.type A L.length c c' k ht hs hLc)
  ·rw [← hat'.same]; exact hw
/-- An append of a whole slice. -/
theorem oAppX {α : Type} {k : Nat} {enc : α → List Value} (E : Enc k enc) {sl e : TypeId} {z : Value} {bytes d : Nat} {x y : Operand} {A Y : Option Addr} {c m c' : Nat} (L M : List α) {G : Option Addr → Nat → List It} [u : Und P sl (.slice e)] [i : Inf P e z k bytes] [s : Siz P e k]
  (hnews : ∀ w, Wd B H w → Arr k enc w (.slice Y m c') M) (hm : m = M.length) (hLc : L.length ≤ c) (ho : o.op = .call { callee := .builtin .append, args := #[x, y], argTypes := #[sl, sl] } := by rfl) (hk : 0 < k := by decide) (hzs : z.cells.size = k := by rfl) (hby : bytes ≤ 128 := by decide) (hd : o.dst = some d := by rfl) (hn : Nat.ble n d = false := by rfl)
  (hx : evl l x = some (.slice A L.length c) := by rfl) (hy : evl l y = some (.slice Y m c') := by rfl) (hl : L.length + M.length ≤ 1000000 := by omega)
  (hat : ∀ A' c', At (ownB e k A L.length c (L.flatMap enc)) (ownB e k A' (L ++ M).length c' ((L ++ M).flatMap enc)) H (G A' c') := by intro A c; repeat constructor) : OpS P n B (some (ownB e k A L.length c (L.flatMap enc))) l H o (fun A' c' => (d, .slice A' (L ++ M).length c') :: l) G :=
 ow_appY E hk u.h i.h hzs hby s.h ho hd hn hx hy hm hLc hnews hl hat
theorem ec_valE {f : FuncId} {g : Operand} {fs cs args : Array Value} {xs : List Operand} {ts : Array TypeId} {vs : List Value} (ho : o.op = .call { callee := .value g, args := xs.toArray, argTypes := ts }) (hg : evl l g = some (.func (.func f) fs cs)) (hx : evs l xs = some vs) (hf : ∀ args w, (callFunc f args).run P w = .ok (.enter f args) w) (he : (fs ++ vs.toArray ++ cs).toList = args.toList) : EC P n l o f args := by
 have : fs ++ vs.toArray ++ cs = args := Array.toList_inj.1 he
 rw [← this]
 exact ec_val ho hg hx hf
/-- An item that the function made, read alone. -/
def roN (N : Nat) (A : It) : It where
 ro := true
 foot := A.foot
 holds w := A.holds w ∧ ∀ b, A.foot b → N ≤ b
 st w w' h hA := ⟨A.st w w' h hA.1, hA.2⟩
theorem Wd.roN {w : World} {H' : List It} {A : It} {N : Nat} (h : Wd B H w) (ha : At A (Go.Proofs.YtjkolebffbeeeaaGreatDoor.roN N A) H H') (hm : ∀ b, ¬ B.m b) (hN : N ≤ B.w.heap.size) (hr : A.ro = false) : Wd B H' w := h.turn ha (fun _ => rfl) ⟨(h.ok A ha.mem).1, fun b hb => by
 rcases ((h.ok A ha.mem).2 b hb).1 with h1 | h1 | h1
 ·rw [hr] at h1; cases h1
 ·exact absurd h1 (hm b)
 ·exact Nat.le_trans hN h1⟩ (fun _ h => h)
theorem Wd.unRo {w : World} {A : It} {N : Nat} (h : Wd B (Go.Proofs.YtjkolebffbeeeaaGreatDoor.roN N A :: H) w) (hN : B.w.heap.size ≤ N) (hH : (H.all fun C => !C.ro) = true) : Wd B (A :: H) w := by
 have hA := h.ok _ List.mem_cons_self
 have hs := List.pairwise_cons.1 h.sep
 refine ⟨h.os, h.tape, h.output, h.size, h.block, fun C hC => ?_, List.pairwise_cons.2 ⟨fun C hC => .inr ?_, hs.2⟩⟩
 ·rcases List.mem_cons.1 hC with rfl | hC
  ·exact ⟨hA.1.1, fun b hb => ⟨.inr (.inr (Nat.le_trans hN (hA.1.2 b hb))), (hA.2 b hb).2⟩⟩
  ·exact h.ok C (List.mem_cons_of_mem _ hC)
 ·rcases hs.1 C hC with ⟨-, h2⟩ | h2
  ·have := List.all_eq_true.1 hH C hC
   rw [h2] at this; cases this
  ·exact h2
theorem J_roN {c : Code} {H' : List It} (N : Nat) (A : It) (h : J P n B c Q l H') (ha : At A (roN N A) H H' := by repeat constructor) (hm : ∀ b, ¬ B.m b := by exact fun _ h => h) (hN : N ≤ B.w.heap.size := by exact Nat.le_refl _) (hr : A.ro = false := by rfl) : J P n B c Q l H := fun a w h1 h2 => h a w h1 (h2.roN ha hm hN hr)
theorem J_dup {c : Code} {H1 : List It} (C : It) (h : J P n B c Q l (C :: H)) (rm : Rm C H H1 := by repeat constructor) (hr : C.ro = true := by rfl) : J P n B c Q l H := fun a w h1 h2 => h a w h1 (h2.addRo rm hr hr (h2.ok C rm.mem).1 (fun _ h => h))
theorem JQ_roN {e : Exit} {H' : List It} (N : Nat) (A : It) (h : JQ n B Q e l H') (ha : At A (roN N A) H H' := by repeat constructor) (hm : ∀ b, ¬ B.m b := by exact fun _ h => h) (hN : N ≤ B.w.heap.size := by exact Nat.le_refl _) (hr : A.ro = false := by rfl) : JQ n B Q e l H := fun a w h1 h2 => h a w h1 (h2.roN ha hm hN hr)
theorem ron_arr {α : Type} {k : Nat} {enc : α → List Value} (E : Enc k enc) {w : World} {N ty c : Nat} {A : Option Addr} {L : List α} (hw : Wd B H w) (hm : roN N (ownB ty k A L.length c (L.flatMap enc)) ∈ H) (hl : L.length ≤ 9223372036854775807) : Arr k enc w (.slice A L.length c) L := Arr.of_own E (hw.ok _ hm).1.1 hl
end
section
variable {P : Program} {n : Nat} {B : Bs} {Q : Exit → Act → World → Prop} {ops : Array Oper} {l : Sl} {H : List It} {ld lx : List Nat} {H0 Hx : List It} {fuel : Nat} {listed : Array Bool} {ord : List Nat}
theorem dPair {i j : Nat} (hr : Region.ready .any ops listed = [i, j]) (h1 : St1 P n B ops Q ld H0 lx Hx fuel listed l H i) (h2 : St1 P n B ops Q ld H0 lx Hx fuel listed l H j) : JD ord P n B ops Q ld H0 lx Hx (fuel + 1) listed l H := JA_pair hr h1 h2
theorem dThree {i j k : Nat} (hr : Region.ready .any ops listed = [i, j, k]) (h1 : St1 P n B ops Q ld H0 lx Hx fuel listed l H i) (h2 : St1 P n B ops Q ld H0 lx Hx fuel listed l H j) (h3 : St1 P n B ops Q ld H0 lx Hx fuel listed l H k) : JD ord P n B ops Q ld H0 lx Hx (fuel + 1) listed l H := JA_three hr h1 h2 h3
end
section
variable {P : Program} {n : Nat} {B : Bs} {Q : Exit → Act → World → Prop} {l : Sl} {H : List It} {c : Code}
/-- Labels that only breaks and continues name. -/
theorem J_scope (h : J P n B c (Exit.noGoto Q) l H) (hr : B.r = none := by rfl) : J P n B (.scope c) Q l H := fun a w ha hw m => by
 have h1 := h a w ha hw m
 rw [hr] at h1 ⊢
 exact wpIn_wide.2 (wp_scope_straight (wp_mono (wpIn_wide.1 h1) (fun e a w hq => by cases e <;> exact hq)))
theorem JQ_ngN (h : JQ n B Q .normal l H) : JQ n B (Exit.noGoto Q) .normal l H := fun a w ha hw => h a w ha hw
theorem JQ_ngR (h : JQ n B Q .ret l H) : JQ n B (Exit.noGoto Q) .ret l H := fun a w ha hw => h a w ha hw
theorem JQ_ngP {ch : List PanicEntry} (h : JQ n B Q (.panic ch) l H) : JQ n B (Exit.noGoto Q) (.panic ch) l H := fun a w ha hw => h a w ha hw
end
end Go.Proofs.YtjkolebffbeeeaaGreatDoor
