/- Layers of the proofs, joined: G3 G4 G5 G6 Gt G7 G8 G9 G10 G11 R1 Ra Rb Rc Rd. -/
import Derived.Test.YtmcpnoailbmkkaaGreatPk1
import Derived.Test.YtmcpnoailbmkkaaGreatProg
import Derived.WideKeyEntry
import Derived.Maps.RangeWalk
import Derived.RangeFuncIn
import Derived.RangeFuncRecord
import Derived.RangeFuncLeaves
import Derived.RangeFuncSeq
import Derived.Recover
import Derived.Scope
import Derived.Sort.CutIn
/- The walk by live slots: slices of slices, calls that write items, appends of whole slices, parameters. Over any program. -/
namespace Go.Proofs.YtmcpnoailbmkkaaGreat
open Go Go.RowKit Go.Proofs Go.Shelf
attribute [local go_sem] Oper.semAt_some


section
variable {P : Program} {α : Type} {k : Nat} {enc : α → List Value}
theorem Arr.blocks {w w' : World} {v : Value} {l : List α} (h : Arr k enc w v l) (hb : ∀ A n c b o, v = .slice A n c → A = some ⟨b, o, none⟩ → l ≠ [] → w'.heap[b]? = w.heap[b]?) : Arr k enc w' v l := by
 obtain ⟨A, cap, rfl, h2, h3, h4⟩ := h
 refine ⟨A, cap, rfl, h2, h3, fun hn => ?_⟩
 obtain ⟨b, o, h5, h6⟩ := h4 hn
 refine ⟨b, o, h5, fun j hj i hi => ?_⟩
 rw [cell_heap (hb _ _ _ _ _ rfl h5 hn)]
 exact h6 j hj i hi
/-- Slices that are read alone. -/
def slsB (k : Nat) (enc : α → List Value) (D : List (Dv α)) : It where
 ro := true
 foot b := ∃ p ∈ D, p.l ≠ [] ∧ ∃ o, p.A = some ⟨b, o, none⟩
 holds w := ∀ p ∈ D, Arr k enc w p.v p.l
 st w w' h h1 := fun p hp => (h1 p hp).blocks (fun A n c b o e1 e2 hn => by
  injection e1 with e1 _ _
  subst e1
  exact h b ⟨p, hp, hn, o, e2⟩)
/-- The slices lie in new blocks, or in the blocks OB. -/
def DvNew (w : World) (OB : Nat → Prop) (D : List (Dv α)) : Prop := ∀ p ∈ D, p.l ≠ [] → ∀ b o, p.A = some ⟨b, o, none⟩ → w.heap.size ≤ b ∨ OB b
theorem DvNew.nil {w : World} {OB : Nat → Prop} : DvNew (α := α) w OB [] := fun _ h => by cases h
theorem DvNew.mono {w : World} {OB OB' : Nat → Prop} {D : List (Dv α)} (h : DvNew w OB D) (ho : ∀ b, OB b → w.heap.size ≤ b ∨ OB' b) : DvNew w OB' D := fun p hp hn b o e => by
 rcases h p hp hn b o e with h | h
 ·exact .inl h
 ·exact ho b h
end
section
variable {P : Program} {n : Nat} {B : Bs} {Q : Exit → Act → World → Prop} {l l' : Sl} {H H' H1 H2 : List It} {ops : Array Oper} {rest : List Oper} {o : Oper} {c : Code} {w w' : World} {ld lx : List Nat} {H0 Hx : List It} {fuel : Nat} {listed : Array Bool}
variable {P : Program} {α : Type} {k : Nat} {enc : α → List Value}
/-- A slice of the caller's, as one that is read alone. -/
theorem Wd.given {A : Option Addr} {cp : Nat} {L : List α} (hk : 0 < k) (E : Enc k enc) (h : Wd B H w) (hm : ∀ b, ¬ B.m b) (hv : Arr k enc B.w (.slice A L.length cp) L) : Wd B (slsB k enc [⟨A, L.length, cp, L⟩] :: H) w := by
 have hold : ∀ b o, L ≠ [] → A = some ⟨b, o, none⟩ → b < B.w.heap.size := by
  intro b o hn hA
  obtain ⟨A', cap, e, -, -, h4⟩ := hv
  injection e with e1 _ _
  obtain ⟨b', o', h5, h6⟩ := h4 hn
  rw [← e1, hA] at h5
  injection h5 with h5
  injection h5 with h5 _ _
  subst h5
  have h0 : 0 < L.length := List.length_pos_iff.2 hn
  have := h6 0 h0 0 hk
  rw [List.getElem?_eq_getElem (by rw [E.len]; exact hk)] at this
  exact lt_cell this
 refine ⟨h.os, h.tape, h.output, h.size, h.block, fun C hC => ?_, List.pairwise_cons.2 ⟨fun C hC => ?_, h.sep⟩⟩
 ·rcases List.mem_cons.1 hC with rfl | hC
  ·refine ⟨fun p hp => ?_, ?_⟩
   ·rw [List.mem_singleton.1 hp]
    exact hv.up E (h.below hm)
   ·rintro b ⟨p, hp, hn, o, ho⟩
    rw [List.mem_singleton.1 hp] at hn ho
    exact ⟨.inl rfl, Nat.lt_of_lt_of_le (hold b o hn ho) h.size⟩
  ·exact h.ok C hC
 ·cases hCr : C.ro with
  | true => exact .inl ⟨rfl, rfl⟩
  | false =>
   refine .inr ?_
   rintro b ⟨p, hp, hn, o, ho⟩ hb
   rw [List.mem_singleton.1 hp] at hn ho
   have h1 := hold b o hn ho
   rcases ((h.ok C hC).2 b hb).1 with h2 | h2 | h2
   ·rw [hCr] at h2; cases h2
   ·exact hm b h2
   ·omega
end

/- The walk by live slots: calls that write an item of the caller; sets. -/

section
variable {P : Program} {n : Nat} {B : Bs} {Q : Exit → Act → World → Prop} {l l' : Sl} {H H' : List It} {ops : Array Oper} {rest : List Oper} {o : Oper} {c : Code} {w w' : World}
/-- The start of a call that may write an item of the caller. -/
theorem Wd.startM {A : It} (h : A.holds w) (hf : ∀ b, A.foot b → b < w.heap.size) : Wd ⟨w, A.foot, none, []⟩ [A] w :=
 ⟨rfl, rfl, rfl, Nat.le_refl _, fun _ _ _ => rfl, fun C hC => by rw [List.mem_singleton.1 hC]; exact ⟨h, fun b hb => ⟨.inr (.inl hb), hf b hb⟩⟩, List.pairwise_singleton _ _⟩
/-- A call's end: it has written the item A; now it is C. -/
def RetM (A : It) {T : Type} (φ : T → Prop) (V : T → Value) (C : T → It) (w : World) (e : Ending) (w' : World) : Prop := ∃ t, φ t ∧ e = .returned (V t) ∧ Wd ⟨w, A.foot, none, []⟩ [C t] w'
theorem Wd.chgOf {A C : It} (h : Wd ⟨w, A.foot, none, []⟩ [C] w') : Chg A w w' := ⟨h.os, h.tape, h.output, h.size, fun b hb hn => h.block b hb hn⟩
theorem ow_callM {A : It} {T : Type} {φ : T → Prop} {V : T → Value} {C : T → It} {G : T → List It} {d : Nat} {f : FuncId} {args : Array Value} (he : EC P n l o f args) (hd : o.dst = some d) (hn : Nat.ble n d = false) (hAr : A.ro = false) (hCr : ∀ t, (C t).ro = false) (hat : ∀ t, At A (C t) H (G t)) (hC : ∀ w, Wd B H w → Calls P f args w (RetM A φ V C w)) :
  OpW P n B (some A) l H o φ (fun t => (d, V t) :: l) G :=
 ow_call (m := some A) he hd hn (V := V) (fun w hw => (hC w hw).mono fun _ w' ⟨t, h0, h1, h2⟩ => by
  have hc : Chg A w w' := Wd.chgOf h2
  have hk := h2.ok (C t) (by simp)
  refine ⟨t, h0, h1, hw.chg (hat t) hAr (hCr t) hc hk.1 (fun b hb => ⟨?_, (hk.2 b hb).2⟩), hc⟩
  rcases (hk.2 b hb).1 with h | h | h
  ·rw [hCr t] at h; cases h
  ·exact .inl h
  ·exact .inr h)
/-- A set. -/
def setG {α : Type} [DecidableEq α] (S : List α) : α → Option Bool := fun y => if y ∈ S then some true else none
def setB (P : Program) {α : Type} [DecidableEq α] (kt : TypeId) (kv : α → Value) (ok : α → Prop) (b : Nat) (S : List α) : It where
 foot k := k = b
 holds w := ∃ n c, n ≤ S.length ∧ MapF P kt 4 kv ok dB w b n c (setG S)
 st _ _ h h1 := by obtain ⟨n, c, h0, h1⟩ := h1; exact ⟨n, c, h0, h1.heap (h b rfl)⟩
section
variable {α : Type} [DecidableEq α] {kv : α → Value} {ok : α → Prop}
theorem setG_upd (S : List α) (x : α) : upd (setG S) x true = setG (x :: S) := by
 funext y; unfold upd setG
 by_cases h : y = x <;> simp [h]
theorem setG_get (S : List α) (x : α) : (setG S x).getD false = decide (x ∈ S) := by
 unfold setG
 by_cases h : x ∈ S <;> simp [h]
theorem setG_nil : (setG ([] : List α)) = fun _ => none := by funext y; simp [setG]
theorem ow_makeSet {kt t : TypeId} {d : Nat} (ho : o.op = .makeMap t none) (hd : o.dst = some d) (hn : Nat.ble n d = false) (hm : ∀ w, (Instr.makeMap t none).run P w = .ok (.map (some w.heap.size)) (w.alloc (.map #[] 0))) :
  OpW P n B none l H o (fun b : Nat => B.w.heap.size ≤ b) (fun b => (d, .map (some b)) :: l) (fun b => setB P kt kv ok b [] :: H) :=
 OpW.of_run hd hn (fun a w _ hw => by
  have hm' : (setB P kt kv ok w.heap.size []).holds (w.alloc (.map #[] 0)) := ⟨0, 0, Nat.le_refl _, by rw [setG_nil]; exact MapF.made w⟩
  exact ⟨w.heap.size, w.alloc (.map #[] 0), hw.size, by unfold execOp; rw [ho]; simp only [Option.map_none, Sem.run_bind, hm, Result.andThen_ok, Sem.run_pure], hw.new ((Below.refl _ _).alloc (Nat.le_refl _) _) hm' (fun b e => by cases e; simp), (show Below _ _ _ from (Below.refl _ _).alloc (Nat.le_refl _) _)⟩)
theorem rv_lookS {kt t : TypeId} {x y : Operand} {b : Nat} {S : List α} {u : Value} (K : KeyL P kt kv ok) (E4 : ElL P 4 kB dB false (fun _ => True)) (k : α) (ht : P.underlying t = some (.map kt 4)) (ho : o.op = .lookup t x y false) (hx : evl l x = some (.map (some b))) (hy : evl l y = some u) (hm : setB P kt kv ok b S ∈ H) (hu : u = kv k) (hk : ok k) :
  RV P n B l H o (.bool (decide (k ∈ S))) := fun a w ha hw => by
 obtain ⟨n, c, -, h⟩ := (hw.ok _ hm).1
 have h' := h.look K E4 ht hk
 rw [setG_get] at h'
 unfold execOp; rw [ho]; simp only [ha.ev hx, ha.ev hy, hu, Sem.run_bind, h', Result.andThen_ok, Sem.run_pure]; rfl
theorem ow_putS {kt t : TypeId} {x y q : Operand} {b : Nat} {S : List α} {u s : Value} (K : KeyL P kt kv ok) (E4 : ElL P 4 kB dB false (fun _ => True)) (k : α) (ht : P.underlying t = some (.map kt 4)) (ho : o.op = .mapUpdate t x y q) (hd : o.dst = none) (hx : evl l x = some (.map (some b))) (hy : evl l y = some u) (hq : evl l q = some s) (hu : u = kv k) (hs : s = .bool true)
  (hat : At (setB P kt kv ok b S) (setB P kt kv ok b (k :: S)) H H') (hk : ok k) (hmn : S.length < 1000000) : OpW P n B (some (setB P kt kv ok b S)) l H o (fun _ : Unit => True) (fun _ => l) (fun _ => H') :=
 OpW.of_skip hd (fun a w ha hw => by
  obtain ⟨n, c, h0, h⟩ := (hw.ok _ hat.mem).1
  obtain ⟨w', h1, h2, h3⟩ := h.put K E4 ht (by omega) hk (v := true) trivial
  rw [setG_upd] at h2
  have hc : Chg (setB P kt kv ok b S) w w' := ⟨h3.os, h3.tape, h3.output, h3.size, fun k hk hnk => h3.block k hk (fun e => hnk (by injection e))⟩
  refine ⟨(), w', trivial, by unfold execOp; rw [ho]; simp only [ha.ev hx, ha.ev hy, ha.ev hq, hu, hs, Sem.run_bind, show (Value.bool true) = kB true from rfl, h1, Result.andThen_ok, Sem.run_pure], hw.chg hat rfl rfl hc ⟨_, _, Nat.succ_le_succ h0, h2⟩ (fun k hk => ⟨.inl hk, ?_⟩), hc⟩
  have : k = b := hk
  subst this
  exact h2.lt)
end
end

/- The walk by live slots: calls that write several items of the caller; views of slices that are read alone. -/

section
variable {P : Program} {n : Nat} {B : Bs} {Q : Exit → Act → World → Prop} {l l' : Sl} {H H' HA H1 G : List It} {ops : Array Oper} {rest : List Oper} {o : Oper} {c : Code} {w w' : World}
theorem Rm.cases {A X : It} (h : Rm A H H1) (hX : X ∈ H) : X = A ∨ X ∈ H1 := by
 induction h with
 | here l => rcases List.mem_cons.1 hX with h | h; exact .inl h; exact .inr h
 | there D h ih =>
  rcases List.mem_cons.1 hX with h | h
  ·exact .inr (by rw [h]; simp)
  ·rcases ih h with h | h
   ·exact .inl h
   ·exact .inr (by simp [h])
end
section
variable {P : Program} {n : Nat} {B : Bs} {l : Sl} {H H0 Hx : List It} {o : Oper} {ops : Array Oper} {Q : Exit → Act → World → Prop} {ld lx : List Nat} {fuel : Nat} {listed : Array Bool}
theorem wn_u {g d : Nat} {b : Bool} (hg : o.guard = some (g, b)) (hd : (ops[g]?).bind (·.dst) = some d) (hv : lk l d = some undef) : WN ops n l o false := fun a ha => by
  have h := ha.get d _ hv
  rw [Array.getD_eq_getD_getElem?] at h
  unfold Region.wanted yielded
  rw [hg]
  simp only [hd, Option.bind_some]
  cases h1 : a.tmps[d]? with
  | none => rfl
  | some u =>
    rw [h1] at h
    simp only [Option.getD_some] at h
    subst h
    cases b <;> rfl
theorem JA_offL {i d : Nat} (hi : ops[i]? = some o) (hd : o.dst = some d) (hs : Region.noSelect ops = true) (hf : Region.free .any ops listed i = true) (hr : (Region.ready .any ops listed).contains i = true) (hlx : lx.contains i = false) (hk : Pk H0 H)
    (hW : WN ops n l o false) (hn : Nat.ble n d = false) (k : JA P n B ops Q ld H0 lx Hx fuel (listed.setIfInBounds i true) ((d, undef) :: l) H) : JA P n B ops Q ld H0 lx Hx (fuel + 1) listed l H := fun a _ ha hw =>
  wpAnyP_takeD0 hi hd hs hf hr (fun _ _ _ h => nq_panic h) (.inr ⟨hW a ha, rfl⟩) ⟨fun _ => hw.pick hk, (fun h => by rw [hlx] at h; cases h)⟩ (k _ _ (ha.put d undef hn) hw)
theorem JA_offX {i d : Nat} (hi : ops[i]? = some o) (hd : o.dst = some d) (hs : Region.noSelect ops = true) (hf : Region.free .any ops listed i = true) (hr : (Region.ready .any ops listed).contains i = true) (hl : ld.contains i = false) (hk : Pk Hx H)
    (hW : WN ops n l o false) (hn : Nat.ble n d = false) (k : JA P n B ops Q ld H0 lx Hx fuel (listed.setIfInBounds i true) ((d, undef) :: l) H) : JA P n B ops Q ld H0 lx Hx (fuel + 1) listed l H := fun a _ ha hw =>
  wpAnyP_takeD0 hi hd hs hf hr (fun _ _ _ h => nq_panic h) (.inr ⟨hW a ha, rfl⟩) ⟨(fun h => by rw [hl] at h; cases h), fun _ => hw.pick hk⟩ (k _ _ (ha.put d undef hn) hw)
end

def eU (x : Int) : List Value := [.int .u8 x]
def eB (x : Bool) : List Value := [.bool x]
section
variable {P : Program} {ρ : Operand → Value} {o : Oper} {w : World} {x y : Operand}
theorem wrap64 {a : Int} (h : -9223372036854775808 ≤ a ∧ a ≤ 9223372036854775807) : IntKind.i64.wrap a = a := by
    unfold IntKind.wrap IntKind.bits IntKind.signed
    simp only [Bool.true_and, decide_eq_true_eq]
    split <;> omega
theorem ex_conv {s d : TypeId} {k k' : IntKind} {a : Int} [us : Und P s (.int k)] [ud : Und P d (.int k')] (ho : o.op = .convert s d x) (hx : ρ x = .int k a) (hw : k'.wrap a = a) : (execOp ρ o).run P w = .ok (.value (.int k' a)) w := by
  have h : (convert s d (.int k a)).run P w = .ok (.int k' (k'.wrap a)) w := by simp [convert, run_underlying us.h, run_underlying ud.h, Conv.intToInt]
  rw [hw] at h
  unfold execOp
  simp only [ho, hx, Sem.run_bind, h, Result.andThen_ok, Sem.run_pure]
end
theorem At.same {A : It} {H H' : List It} (h : At A A H H') : H = H' := by
  induction h with
  | here l => rfl
  | there D _ ih => rw [ih]
section
variable {P : Program} {n : Nat} {B : Bs} {l : Sl} {H H' : List It} {o : Oper}
end
section
variable {P : Program} {n : Nat} {B : Bs} {Q : Exit → Act → World → Prop} {ops : Array Oper} {l : Sl} {H : List It} {o : Oper} {ld lx : List Nat} {H0 Hx : List It} {fuel : Nat} {listed : Array Bool}
end
end Go.Proofs.YtmcpnoailbmkkaaGreat
/- The walk by live slots: operations with the program's facts as instances; strings; panics; short rules, and runs of steps. Over any program. -/
namespace Go.Proofs.YtmcpnoailbmkkaaGreat
open Go Go.RowKit Go.Proofs Go.Shelf
attribute [local go_sem] Oper.semAt_some

/-! ### Strings -/
def ltS (a b : ByteArray) : Bool := Op.bytesLess a.toList b.toList
theorem ba_list (a b : ByteArray) : (a.toList == b.toList) = decide (a = b) := by
 by_cases h : a = b
 ·subst h; simp
 ·have : ¬ a.toList = b.toList := fun e => h (WideShapes.bytes_inj (by rw [← ByteArray.toList_eq, ← ByteArray.toList_eq]; exact e))
  rw [decide_eq_false h]; simpa using this
section
variable {P : Program} {ρ : Operand → Value} {o : Oper} {w : World} {x y : Operand} {t : TypeId}
theorem ex_eqlS {a b : ByteArray} {ty : TypeId} (ho : o.op = .binOp .eql t x y ty) (hx : ρ x = .string a) (hy : ρ y = .string b) : (execOp ρ o).run P w = .ok (.value (.bool (decide (a = b)))) w := by
 rw [← ba_list]; unfold execOp; simp only [ho, hx, hy]; go_simp
theorem ex_neqS {a b : ByteArray} {ty : TypeId} (ho : o.op = .binOp .neq t x y ty) (hx : ρ x = .string a) (hy : ρ y = .string b) : (execOp ρ o).run P w = .ok (.value (.bool (decide (¬ a = b)))) w := by
 have e : decide (¬ a = b) = !(a.toList == b.toList) := by rw [ba_list]; simp
 rw [e]; unfold execOp; simp only [ho, hx, hy]; go_simp
theorem ex_lssS {a b : ByteArray} {ty : TypeId} (ho : o.op = .binOp .lss t x y ty) (hx : ρ x = .string a) (hy : ρ y = .string b) : (execOp ρ o).run P w = .ok (.value (.bool (ltS a b))) w := by
 unfold ltS execOp; simp only [ho, hx, hy]; go_simp
theorem ex_leqS {a b : ByteArray} {ty : TypeId} (ho : o.op = .binOp .leq t x y ty) (hx : ρ x = .string a) (hy : ρ y = .string b) : (execOp ρ o).run P w = .ok (.value (.bool (ltS a b || decide (a = b)))) w := by
 rw [← ba_list]; unfold ltS execOp; simp only [ho, hx, hy]; go_simp
theorem ex_catS {a b : ByteArray} {ty : TypeId} (ho : o.op = .binOp .add t x y ty) (hx : ρ x = .string a) (hy : ρ y = .string b) (hl : a.size + b.size ≤ 1000000000) : (execOp ρ o).run P w = .ok (.value (.string (a ++ b))) w := by
 unfold execOp; simp only [ho, hx, hy]
 go_simp
 omega
theorem ex_cmpK {k : IntKind} {a b : Int} {ty : TypeId} {op : BinOp} {r : Bool} (hop : (op == .eql || op == .neq || op == .lss || op == .leq || op == .gtr || op == .geq) = true) (ho : o.op = .binOp op t x y ty) (hx : ρ x = .int k a) (hy : ρ y = .int k b) (hr : ∀ w, (Op.intCmp op a b).run P w = .ok (.bool r) w) : (execOp ρ o).run P w = .ok (.value (.bool r)) w := by
 have h := hr w
 unfold execOp; simp only [ho, hx, hy]
 cases op <;> simp at hop <;> go_simp <;> simp_all [Op.intCmp]
end
/-! ### Operations without memory -/
section
variable {P : Program} {n : Nat} {B : Bs} {l : Sl} {H H' : List It} {o : Oper} {x y : Operand} {t ty : TypeId}
theorem pAdd {a b : Int} (ho : o.op = .binOp .add t x y ty) (hx : evl l x = some (.int .i64 a)) (hy : evl l y = some (.int .i64 b)) (hb : -9223372036854775808 ≤ a + b ∧ a + b ≤ 9223372036854775807 := by omega) : RP P n l o (.int .i64 (a + b)) := rp2 hx hy (fun _ h1 h2 _ => ex_add ho h1 h2 hb)
theorem pSub {a b : Int} (ho : o.op = .binOp .sub t x y ty) (hx : evl l x = some (.int .i64 a)) (hy : evl l y = some (.int .i64 b)) (hb : -9223372036854775808 ≤ a - b ∧ a - b ≤ 9223372036854775807 := by omega) : RP P n l o (.int .i64 (a - b)) := rp2 hx hy (fun _ h1 h2 _ => ex_sub ho h1 h2 hb)
theorem pMul {a b : Int} (ho : o.op = .binOp .mul t x y ty) (hx : evl l x = some (.int .i64 a)) (hy : evl l y = some (.int .i64 b)) (hb : -9223372036854775808 ≤ a * b ∧ a * b ≤ 9223372036854775807 := by omega) : RP P n l o (.int .i64 (a * b)) := rp2 hx hy (fun _ h1 h2 _ => ex_mul ho h1 h2 hb)
theorem pQuo {a b : Int} (ho : o.op = .binOp .quo t x y ty) (hx : evl l x = some (.int .i64 a)) (hy : evl l y = some (.int .i64 b)) (h1 : 0 ≤ a ∧ a ≤ 9223372036854775807 := by omega) (h2 : 0 < b := by omega) : RP P n l o (.int .i64 (a / b)) := rp2 hx hy (fun _ h3 h4 _ => ex_quo ho h3 h4 h1 h2)
theorem pRem {a b : Int} (ho : o.op = .binOp .rem t x y ty) (hx : evl l x = some (.int .i64 a)) (hy : evl l y = some (.int .i64 b)) (h1 : 0 ≤ a ∧ a ≤ 9223372036854775807 := by omega) (h2 : 0 < b := by omega) : RP P n l o (.int .i64 (a % b)) := rp2 hx hy (fun _ h3 h4 _ => ex_rem ho h3 h4 h1 h2)
theorem pLss {a b : Int} (ho : o.op = .binOp .lss t x y ty) (hx : evl l x = some (.int .i64 a)) (hy : evl l y = some (.int .i64 b)) : RP P n l o (.bool (decide (a < b))) := rp2 hx hy (fun _ h1 h2 _ => ex_lss ho h1 h2)
theorem pGtr {a b : Int} (ho : o.op = .binOp .gtr t x y ty) (hx : evl l x = some (.int .i64 a)) (hy : evl l y = some (.int .i64 b)) : RP P n l o (.bool (decide (b < a))) := rp2 hx hy (fun _ h1 h2 _ => ex_gtr ho h1 h2)
theorem pLeq {a b : Int} (ho : o.op = .binOp .leq t x y ty) (hx : evl l x = some (.int .i64 a)) (hy : evl l y = some (.int .i64 b)) : RP P n l o (.bool (decide (a ≤ b))) := rp2 hx hy (fun _ h1 h2 _ => ex_leq ho h1 h2)
theorem pGeq {a b : Int} (ho : o.op = .binOp .geq t x y ty) (hx : evl l x = some (.int .i64 a)) (hy : evl l y = some (.int .i64 b)) : RP P n l o (.bool (decide (b ≤ a))) := rp2 hx hy (fun _ h1 h2 _ => ex_geq ho h1 h2)
theorem pEql {a b : Int} (ho : o.op = .binOp .eql t x y ty) (hx : evl l x = some (.int .i64 a)) (hy : evl l y = some (.int .i64 b)) : RP P n l o (.bool (decide (a = b))) := rp2 hx hy (fun _ h1 h2 _ => ex_eqlD ho h1 h2)
theorem pNeq {a b : Int} (ho : o.op = .binOp .neq t x y ty) (hx : evl l x = some (.int .i64 a)) (hy : evl l y = some (.int .i64 b)) : RP P n l o (.bool (decide (a ≠ b))) := rp2 hx hy (fun _ h1 h2 _ => ex_neqD ho h1 h2)
theorem pLssK {k : IntKind} {a b : Int} (ho : o.op = .binOp .lss t x y ty) (hx : evl l x = some (.int k a)) (hy : evl l y = some (.int k b)) : RP P n l o (.bool (decide (a < b))) := rp2 hx hy (fun _ h1 h2 _ => ex_cmpK rfl ho h1 h2 (fun _ => rfl))
theorem pGtrK {k : IntKind} {a b : Int} (ho : o.op = .binOp .gtr t x y ty) (hx : evl l x = some (.int k a)) (hy : evl l y = some (.int k b)) : RP P n l o (.bool (decide (b < a))) := rp2 hx hy (fun _ h1 h2 _ => ex_cmpK rfl ho h1 h2 (fun _ => rfl))
theorem pNeqK {k : IntKind} {a b : Int} (ho : o.op = .binOp .neq t x y ty) (hx : evl l x = some (.int k a)) (hy : evl l y = some (.int k b)) : RP P n l o (.bool (decide (a ≠ b))) := rp2 hx hy (fun _ h1 h2 _ => by
 have e : decide (a ≠ b) = (a != b) := by by_cases h : a = b <;> simp [h]
 rw [e]; exact ex_cmpK rfl ho h1 h2 (fun _ => rfl))
theorem pEqlS {a b : ByteArray} (ho : o.op = .binOp .eql t x y ty) (hx : evl l x = some (.string a)) (hy : evl l y = some (.string b)) : RP P n l o (.bool (decide (a = b))) := rp2 hx hy (fun _ h1 h2 _ => ex_eqlS ho h1 h2)
theorem pNeqS {a b : ByteArray} (ho : o.op = .binOp .neq t x y ty) (hx : evl l x = some (.string a)) (hy : evl l y = some (.string b)) : RP P n l o (.bool (decide (¬ a = b))) := rp2 hx hy (fun _ h1 h2 _ => ex_neqS ho h1 h2)
theorem pLssS {a b : ByteArray} (ho : o.op = .binOp .lss t x y ty) (hx : evl l x = some (.string a)) (hy : evl l y = some (.string b)) : RP P n l o (.bool (ltS a b)) := rp2 hx hy (fun _ h1 h2 _ => ex_lssS ho h1 h2)
theorem pLeqS {a b : ByteArray} (ho : o.op = .binOp .leq t x y ty) (hx : evl l x = some (.string a)) (hy : evl l y = some (.string b)) : RP P n l o (.bool (ltS a b || decide (a = b))) := rp2 hx hy (fun _ h1 h2 _ => ex_leqS ho h1 h2)
theorem pCatS {a b : ByteArray} (ho : o.op = .binOp .add t x y ty) (hx : evl l x = some (.string a)) (hy : evl l y = some (.string b)) (hl : a.size + b.size ≤ 1000000000 := by omega) : RP P n l o (.string (a ++ b)) := rp2 hx hy (fun _ h1 h2 _ => ex_catS ho h1 h2 hl)
theorem pNot {b : Bool} (ho : o.op = .unOp .not t x) (hx : evl l x = some (.bool b)) : RP P n l o (.bool (!b)) := rp1 hx (fun _ h1 _ => ex_not ho h1)
theorem pLen {A : Option Addr} {m c : Nat} {e : TypeId} [u : Und P t (.slice e)] (ho : o.op = .call { callee := .builtin .len, args := #[x], argTypes := #[t] }) (hx : evl l x = some (.slice A m c)) : RP P n l o (.int .i64 (m : Nat)) := rp1 hx (fun _ h1 _ => ex_len ho u.h h1)
theorem pLenS {s : ByteArray} [u : Und P t .string] (ho : o.op = .call { callee := .builtin .len, args := #[x], argTypes := #[t] }) (hx : evl l x = some (.string s)) : RP P n l o (.int .i64 (s.size : Nat)) := rp1 hx (fun ρ h1 w => by
 have hu := u.h
 unfold execOp
 simp only [ho, resolve, List.map_toArray, List.map_cons, List.map_nil, h1]
 go_simp)
theorem pMax {a b : Int} {t1 t2 : TypeId} (ho : o.op = .call { callee := .builtin .max, args := #[x, y], argTypes := #[t1, t2] }) (hx : evl l x = some (.int .i64 a)) (hy : evl l y = some (.int .i64 b)) : RP P n l o (.int .i64 (max a b)) := rp2 hx hy (fun _ h1 h2 _ => ex_max ho h1 h2)
theorem pMin {a b : Int} {t1 t2 : TypeId} (ho : o.op = .call { callee := .builtin .min, args := #[x, y], argTypes := #[t1, t2] }) (hx : evl l x = some (.int .i64 a)) (hy : evl l y = some (.int .i64 b)) : RP P n l o (.int .i64 (min a b)) := rp2 hx hy (fun _ h1 h2 _ => ex_min ho h1 h2)
/-- A field of a struct; its cells. -/
class Fld (P : Program) (t f : Nat) (k : outParam Nat) (m : outParam Nat) (agg : outParam Bool) : Prop where
 h : ∀ (cs : Array Value) (w : World), (Instr.field t (.agg cs) f).run P w = (part (match P.underlying t with | some (.struct fs) => (match fs[f]? with | some g => g.type | none => 0) | _ => 0) cs k).run P w
theorem pExt {i : Nat} {v : Value} {vs : List Value} (ho : o.op = .extract x i) (hx : evl l x = some (.tuple vs.toArray)) (hv : vs[i]? = some v) : RP P n l o v := rp1 hx (fun ρ h1 w => by
 have hr : (Instr.extract (.tuple vs.toArray) i).run P w = .ok v w := by
  unfold Instr.extract; simp only [List.getElem?_toArray, hv]; rfl
 unfold execOp; simp only [ho, h1, Sem.run_bind, hr, Result.andThen_ok, Sem.run_pure])
theorem pFieldE {s f b X i k : Nat} [h : Fof P s f k] (ho : o.op = .fieldAddr s x f) (hx : evl l x = some (.pointer (some ⟨b, X + i, none⟩))) : RP P n l o (.pointer (some ⟨b, X + (i + k), none⟩)) := rp_fieldE ho hx h.h rfl
theorem pField {s f b off k : Nat} [h : Fof P s f k] (ho : o.op = .fieldAddr s x f) (hx : evl l x = some (.pointer (some ⟨b, off, none⟩))) : RP P n l o (.pointer (some ⟨b, off + k, none⟩)) := rp_field ho hx h.h
theorem pIdx {b off m c k sz : Nat} {e : TypeId} [u : Und P t (.slice e)] [z : Siz P e sz] (ho : o.op = .indexAddr t x y) (hx : evl l x = some (.slice (some ⟨b, off, none⟩) m c)) (hy : evl l y = some (.int .i64 (k : Nat))) (hk : k < m := by omega) : RP P n l o (.pointer (some ⟨b, off + k * sz + 0, none⟩)) := rp2 hx hy (fun _ h1 h2 _ => ex_indexE ho h1 h2 u.h z.h hk)
theorem pIdxI {b off m c sz : Nat} {i : Int} {e : TypeId} (k : Nat) [u : Und P t (.slice e)] [z : Siz P e sz] (ho : o.op = .indexAddr t x y) (hx : evl l x = some (.slice (some ⟨b, off, none⟩) m c)) (hy : evl l y = some (.int .i64 i)) (hi : i = (k : Nat) := by omega) (hk : k < m := by omega) : RP P n l o (.pointer (some ⟨b, off + k * sz + 0, none⟩)) := rp2 hx hy (fun _ h1 h2 _ => ex_indexI ho h1 h2 hi u.h z.h hk)
/-! ### Reads, stores of blocks that are known -/
theorem vCell {b off : Nat} {v : Value} {vs : List Value} {ty : TypeId} [g : Agg P t false] (ho : o.op = .load t x) (hx : evl l x = some (.pointer (some ⟨b, off, none⟩))) (hm : cellB b vs ty ∈ H) (hv : vs[off]? = some v) : RV P n B l H o v := rv_cell ho hx g.h hm hv
theorem vAgg {b off k : Nat} {vs : List Value} {ty : TypeId} (cs : List Value) [g : Agg P t true] [z : Siz P t k] (ho : o.op = .load t x) (hx : evl l x = some (.pointer (some ⟨b, off, none⟩))) (hk : cs.length = k) (hm : cellB b vs ty ∈ H) (hv : (vs.drop off).take cs.length = cs) : RV P n B l H o (.agg cs.toArray) := rv_agg ho hx g.h (by rw [hk]; exact z.h) hm hv
theorem vOwn {α : Type} {k : Nat} {enc : α → List Value} (E : Enc k enc) {m c b j i : Nat} {v : Value} {L : List α} {ty : TypeId} [g : Agg P t false] (ho : o.op = .load t x) (hx : evl l x = some (.pointer (some ⟨b, 0 + j * k + i, none⟩))) (hm : ownB ty k (some ⟨b, 0, none⟩) m c (L.flatMap enc) ∈ H) (hj : j < L.length) (hi : i < k) (hv : (enc (L[j]'hj))[i]? = some v) : RV P n B l H o v := rv_ownE E ho hx g.h hm hj hi hv
theorem vHold {α : Type} {enc : α → List Value} {b p j k i : Nat} {L : List α} {v : Value} [g : Agg P t false] (ho : o.op = .load t x) (hx : evl l x = some (.pointer (some ⟨b, p + j * k + i, none⟩))) (hm : ¬ B.m b) (hc : HoldL k enc B.w b p L) (hj : j < L.length) (hi : i < k) (hv : (enc (L[j]'hj))[i]? = some v) : RV P n B l H o v := rv_hold ho hx g.h hm hc hj hi hv
theorem vHoldA {α : Type} {enc : α → List Value} {k : Nat} (E : Enc k enc) {b p j : Nat} {L : List α} {cs : List Value} [g : Agg P t true] [z : Siz P t k] (ho : o.op = .load t x) (hx : evl l x = some (.pointer (some ⟨b, p + j * k + 0, none⟩))) (hm : ¬ B.m b) (hc : HoldL k enc B.w b p L) (hj : j < L.length) (hv : enc (L[j]'hj) = cs) : RV P n B l H o (.agg cs.toArray) := rv_holdagg E ho hx g.h z.h hm hc hj hv
theorem vOld {b off : Nat} {v : Value} [g : Agg P t false] (ho : o.op = .load t x) (hx : evl l x = some (.pointer (some ⟨b, off, none⟩))) (hm : ¬ B.m b) (hc : B.w.cell? ⟨b, off, none⟩ = some v) : RV P n B l H o v := rv_old ho hx g.h hm hc
theorem wStore {b off k : Nat} {v : Value} {cs vs vs' : List Value} {ty : TypeId} [z : Siz P t k] (ho : o.op = .store t x y) (hd : o.dst = none) (hx : evl l x = some (.pointer (some ⟨b, off, none⟩))) (hy : evl l y = some v) (hcs : v.cells = cs.toArray) (hk : cs.length = k) (h1 : cs.all (·.oneCell') = true) (hat : At (cellB b vs ty) (cellB b vs' ty) H H') (hl : Nat.ble (off + cs.length) vs.length = true) (hv : vs.take off ++ cs ++ vs.drop (off + cs.length) = vs') : OpW P n B (some (cellB b vs ty)) l H o (fun _ : Unit => True) (fun _ => l) (fun _ => H') := ow_store ho hd hx hy hcs (by rw [hk]; exact z.h) h1 hat hl hv
end
end Go.Proofs.YtmcpnoailbmkkaaGreat
/- The walk by live slots: drawn regions by a printed order; short rules; runs of steps; panics. Over any program. -/
namespace Go.Proofs.YtmcpnoailbmkkaaGreat
open Go Go.RowKit Go.Proofs Go.Shelf

section
variable {P : Program} {n : Nat} {B : Bs} {Q Q' : Exit → Act → World → Prop} {l l' : Sl} {H H' : List It} {ops : Array Oper} {rest : List Oper} {o : Oper} {c x y : Code} {ld lx ord : List Nat} {H0 Hx : List It} {fuel : Nat} {listed : Array Bool}
/-! ### Drawn regions -/
/-- ord: what is taken next (no part of what is said). -/
def JD (_ord : List Nat) (P : Program) (n : Nat) (B : Bs) (ops : Array Oper) (Q : Exit → Act → World → Prop) (ld : List Nat) (H0 : List It) (lx : List Nat) (Hx : List It) (fuel : Nat) (listed : Array Bool) (l : Sl) (H : List It) : Prop := JA P n B ops Q ld H0 lx Hx fuel listed l H
def okT (ops : Array Oper) (listed : Array Bool) (i : Nat) (L : List Nat) : Bool := Region.noSelect ops && (Region.free .any ops listed i && ((Region.ready .any ops listed).contains i && !L.contains i))
def okL (ops : Array Oper) (listed : Array Bool) (i : Nat) (L L' : List Nat) : Bool := Region.noSelect ops && (Region.free .any ops listed i && ((Region.ready .any ops listed).contains i && (L.contains i && !L'.contains i)))
theorem okT_out {i : Nat} {L : List Nat} (h : okT ops listed i L = true) : Region.noSelect ops = true ∧ Region.free .any ops listed i = true ∧ (Region.ready .any ops listed).contains i = true ∧ L.contains i = false := by
 unfold okT at h
 rw [Bool.and_eq_true, Bool.and_eq_true, Bool.and_eq_true, Bool.not_eq_true'] at h; exact h
theorem okL_out {i : Nat} {L L' : List Nat} (h : okL ops listed i L L' = true) : Region.noSelect ops = true ∧ Region.free .any ops listed i = true ∧ (Region.ready .any ops listed).contains i = true ∧ L.contains i = true ∧ L'.contains i = false := by
 unfold okL at h
 rw [Bool.and_eq_true, Bool.and_eq_true, Bool.and_eq_true, Bool.and_eq_true, Bool.not_eq_true'] at h; exact h
theorem xD {id : Nat} {ls : List Oper} (ord ld : List Nat) (h : JD ord P n B ls.toArray Q ld H [] [] ls.length (Array.replicate ls.length false) l H) (hm : P.follows .mixedOrders = true := by kernel_rfl) (hd : B.r = none ∨ ndL ls = true := by first | exact .inl rfl | exact .inr rfl) : J P n B (.region id ls.toArray true) Q l H := J_draw ld hm h (hd := hd)
theorem xDx {id : Nat} {ls : List Oper} (ord ld lx : List Nat) (Hx : List It) (h : JD ord P n B ls.toArray Q ld H lx Hx ls.length (Array.replicate ls.length false) l H) (hk : Pk Hx H := by repeat constructor) (hm : P.follows .mixedOrders = true := by kernel_rfl) (hd : B.r = none ∨ ndL ls = true := by first | exact .inl rfl | exact .inr rfl) : J P n B (.region id ls.toArray true) Q l H := J_drawX ld lx Hx hk hm h (hd := hd)
theorem dO (ord' : List Nat) (h : JD ord' P n B ops Q ld H0 lx Hx fuel listed l H) : JD ord P n B ops Q ld H0 lx Hx fuel listed l H := h
theorem dDone (h : JQ n B Q .normal l H) (hr : Region.ready .any ops listed = [] := by kernel_rfl) : JD [] P n B ops Q ld H0 lx Hx fuel listed l H := JA_done hr h
theorem wAny (h : WN ops n l o true := by first | exact wn0 rfl | exact wn_g rfl rfl rfl rfl) : WN ops n l o true := h
theorem wOff (h : WN ops n l o false := by first | exact wn_g rfl rfl rfl rfl | exact wn_u rfl rfl rfl) : WN ops n l o false := h
theorem dP {i d : Nat} {v : Value} (hi : ops[i]? = some o) (hv : RP P n l o v) (k : JD ord P n B ops Q ld H0 lx Hx fuel (listed.setIfInBounds i true) ((d, v) :: l) H) (hd : o.dst = some d := by rfl) (hc : okT ops listed i (ld ++ lx) = true := by kernel_rfl) (hW : WN ops n l o true := by exact wAny) (hn : Nat.ble n d = false := by rfl) :
  JD (i :: ord) P n B ops Q ld H0 lx Hx (fuel + 1) listed l H := by obtain ⟨h1, h2, h3, h4⟩ := okT_out hc; exact JA_takeP hi hd h1 h2 h3 h4 hW hv hn k
theorem dL {i d : Nat} {v : Value} (hi : ops[i]? = some o) (hv : RV P n B l H0 o v) (k : JD ord P n B ops Q ld H0 lx Hx fuel (listed.setIfInBounds i true) ((d, v) :: l) H) (hd : o.dst = some d := by rfl) (_hl : ld.contains i = true := by rfl) (hc : okL ops listed i ld lx = true := by kernel_rfl) (hk : Pk H0 H := by repeat constructor) (hW : WN ops n l o true := by exact wAny) (hn : Nat.ble n d = false := by rfl) :
  JD (i :: ord) P n B ops Q ld H0 lx Hx (fuel + 1) listed l H := by obtain ⟨h1, h2, h3, h4, h5⟩ := okL_out hc; exact JA_takeL hi hd h1 h2 h3 h4 h5 hk hW hv hn k
theorem dX {i d : Nat} {v : Value} (hi : ops[i]? = some o) (hv : RV P n B l Hx o v) (k : JD ord P n B ops Q ld H0 lx Hx fuel (listed.setIfInBounds i true) ((d, v) :: l) H) (hd : o.dst = some d := by rfl) (_hl : lx.contains i = true := by rfl) (hc : okL ops listed i lx ld = true := by kernel_rfl) (hk : Pk Hx H := by repeat constructor) (hW : WN ops n l o true := by exact wAny) (hn : Nat.ble n d = false := by rfl) :
  JD (i :: ord) P n B ops Q ld H0 lx Hx (fuel + 1) listed l H := by obtain ⟨h1, h2, h3, h4, h5⟩ := okL_out hc; exact JA_takeX hi hd h1 h2 h3 h5 h4 hk hW hv hn k
theorem dF {i d : Nat} (hi : ops[i]? = some o) (hW : WN ops n l o false) (k : JD ord P n B ops Q ld H0 lx Hx fuel (listed.setIfInBounds i true) ((d, undef) :: l) H) (hd : o.dst = some d := by rfl) (_hl : (ld ++ lx).contains i = false := by rfl) (hc : okT ops listed i (ld ++ lx) = true := by kernel_rfl) (hn : Nat.ble n d = false := by rfl) :
  JD (i :: ord) P n B ops Q ld H0 lx Hx (fuel + 1) listed l H := by obtain ⟨h1, h2, h3, h4⟩ := okT_out hc; exact JA_off hi hd h1 h2 h3 h4 hW hn k
theorem dFL {i d : Nat} (hi : ops[i]? = some o) (hW : WN ops n l o false) (k : JD ord P n B ops Q ld H0 lx Hx fuel (listed.setIfInBounds i true) ((d, undef) :: l) H) (hd : o.dst = some d := by rfl) (hl : lx.contains i = false := by rfl) (_hx : ld.contains i = true := by rfl) (hc : okL ops listed i ld lx = true := by kernel_rfl) (hk : Pk H0 H := by repeat constructor) (hn : Nat.ble n d = false := by rfl) :
  JD (i :: ord) P n B ops Q ld H0 lx Hx (fuel + 1) listed l H := by obtain ⟨h1, h2, h3, h4, h5⟩ := okL_out hc; exact JA_offL hi hd h1 h2 h3 hl hk hW hn k
theorem dFX {i d : Nat} (hi : ops[i]? = some o) (hW : WN ops n l o false) (k : JD ord P n B ops Q ld H0 lx Hx fuel (listed.setIfInBounds i true) ((d, undef) :: l) H) (hd : o.dst = some d := by rfl) (hl : ld.contains i = false := by rfl) (_hx : lx.contains i = true := by rfl) (hc : okL ops listed i lx ld = true := by kernel_rfl) (hk : Pk Hx H := by repeat constructor) (hn : Nat.ble n d = false := by rfl) :
  JD (i :: ord) P n B ops Q ld H0 lx Hx (fuel + 1) listed l H := by obtain ⟨h1, h2, h3, h4, h5⟩ := okL_out hc; exact JA_offX hi hd h1 h2 h3 hl hk hW hn k
/-- One operation alone may come up. -/
theorem dW {i : Nat} {m : Option It} {T : Type} {φ : T → Prop} {D : T → Sl} {G : T → List It} (hi : ops[i]? = some o) (h : OpW P n B m l H o φ D G) (k : ∀ t, φ t → JD ord P n B ops Q ld H0 lx Hx fuel (listed.setIfInBounds i true) (D t) (G t)) (hr : Region.ready .any ops listed = [i] := by kernel_rfl) (hm : Kp ops ld lx Hx H i m := by first | exact trivial | exact ⟨by kernel_rfl, .inl (rfl : waitsB _ [] _ = true)⟩ | exact ⟨by kernel_rfl, .inr ⟨rfl, by repeat constructor⟩⟩) (hW : WN ops n l o true := by exact wAny) :
  JD (i :: ord) P n B ops Q ld H0 lx Hx (fuel + 1) listed l H := JA_one hr hi hW h hm k
theorem dS {i : Nat} {m : Option It} {D : Option Addr → Nat → Sl} {G : Option Addr → Nat → List It} (hi : ops[i]? = some o) (h : OpS P n B m l H o D G) (k : ∀ A c, JD ord P n B ops Q ld H0 lx Hx fuel (listed.setIfInBounds i true) (D A c) (G A c)) (hr : Region.ready .any ops listed = [i] := by kernel_rfl) (hm : Kp ops ld lx Hx H i m := by first | exact trivial | exact ⟨by kernel_rfl, .inl (rfl : waitsB _ [] _ = true)⟩ | exact ⟨by kernel_rfl, .inr ⟨rfl, by repeat constructor⟩⟩) (hW : WN ops n l o true := by exact wAny) :
  JD (i :: ord) P n B ops Q ld H0 lx Hx (fuel + 1) listed l H := JA_oneS hr hi hW h hm k
theorem dDec {d : Nat} {p : Prop} [Decidable p] (h1 : p → JD ord P n B ops Q ld H0 lx Hx fuel listed ((d, .bool true) :: l) H) (h2 : ¬ p → JD ord P n B ops Q ld H0 lx Hx fuel listed ((d, .bool false) :: l) H) : JD ord P n B ops Q ld H0 lx Hx fuel listed ((d, .bool (decide p)) :: l) H := JA_dec h1 h2
theorem dDecT {d : Nat} {p : Prop} [Decidable p] (h1 : JD ord P n B ops Q ld H0 lx Hx fuel listed ((d, .bool true) :: l) H) (hp : p := by omega) : JD ord P n B ops Q ld H0 lx Hx fuel listed ((d, .bool (decide p)) :: l) H := JA_decT hp h1
theorem dDecF {d : Nat} {p : Prop} [Decidable p] (h1 : JD ord P n B ops Q ld H0 lx Hx fuel listed ((d, .bool false) :: l) H) (hp : ¬ p := by omega) : JD ord P n B ops Q ld H0 lx Hx fuel listed ((d, .bool (decide p)) :: l) H := JA_decF hp h1
/-! ### Plain regions -/
theorem aDecT {d : Nat} {p : Prop} [Decidable p] (h1 : JL P n B ops Q rest ((d, .bool true) :: l) H) (hp : p := by omega) : JL P n B ops Q rest ((d, .bool (decide p)) :: l) H := JL_decT hp h1
theorem aDecF {d : Nat} {p : Prop} [Decidable p] (h1 : JL P n B ops Q rest ((d, .bool false) :: l) H) (hp : ¬ p := by omega) : JL P n B ops Q rest ((d, .bool (decide p)) :: l) H := JL_decF hp h1
theorem aBoolF {d : Nat} {b : Bool} (h1 : JL P n B ops Q rest ((d, .bool false) :: l) H) (hb : b = false := by assumption) : JL P n B ops Q rest ((d, .bool b) :: l) H := JL_boolF hb h1
theorem aP {v : Value} {d : Nat} (hv : RP P n l o v) (k : JL P n B ops Q rest ((d, v) :: l) H) (hd : o.dst = some d := by rfl) (hW : WN ops n l o true := by exact wAny) (hn : Nat.ble n d = false := by rfl) : JL P n B ops Q (o :: rest) l H := JL_val hd hW (RP.rv hv) hn k
theorem aV {v : Value} {d : Nat} (hv : RV P n B l H o v) (k : JL P n B ops Q rest ((d, v) :: l) H) (hd : o.dst = some d := by rfl) (hW : WN ops n l o true := by exact wAny) (hn : Nat.ble n d = false := by rfl) : JL P n B ops Q (o :: rest) l H := JL_val hd hW hv hn k
theorem aF {d : Nat} (k : JL P n B ops Q rest ((d, undef) :: l) H) (hd : o.dst = some d := by rfl) (hW : WN ops n l o false := by exact wOff) (hn : Nat.ble n d = false := by rfl) : JL P n B ops Q (o :: rest) l H := JL_off hd hW hn k
theorem aF0 (k : JL P n B ops Q rest l H) (hd : o.dst = none := by rfl) (hW : WN ops n l o false := by exact wOff) : JL P n B ops Q (o :: rest) l H := JL_off0 hd hW k
theorem aW {m : Option It} {T : Type} {φ : T → Prop} {D : T → Sl} {G : T → List It} (h : OpW P n B m l H o φ D G) (k : ∀ t, φ t → JL P n B ops Q rest (D t) (G t)) (hW : WN ops n l o true := by exact wAny) : JL P n B ops Q (o :: rest) l H := JL_op hW h k
theorem aS {m : Option It} {D : Option Addr → Nat → Sl} {G : Option Addr → Nat → List It} (h : OpS P n B m l H o D G) (k : ∀ A c, JL P n B ops Q rest (D A c) (G A c)) (hW : WN ops n l o true := by exact wAny) : JL P n B ops Q (o :: rest) l H := JL_opS hW h k
/-! ### Covers, loops, cuts -/
theorem cov {l' l : Sl} (h : Cov l' l := by repeat (first | exact trivial | refine ⟨rfl, ?_⟩ | refine ⟨congrArg some (by go_num), ?_⟩ | refine ⟨congrArg (fun x => some (Value.int .i64 x)) (by omega), ?_⟩)) : Cov l' l := h
theorem kJ (l' : Sl) (h : J P n B c Q l' H) (hc : Cov l' l := by exact cov) : J P n B c Q l H := J_keep hc h
theorem xL {T : Type} (φ : T → Prop) (L : T → Sl) (HH : T → List It) (μ : T → Nat) (t0 : T) (h0 : φ t0) (round : ∀ t, φ t → J P n B c (Exit.then (LI n (fun _ => B) φ L HH μ (μ t)) Q) (L t) (HH t)) (hl : Cov (L t0) l := by exact cov) (hH : Pk (HH t0) H := by repeat constructor) : J P n B (.loop c) Q l H := J_loop φ L HH μ t0 h0 hl hH round
theorem xR {T : Type} {φ : T → Prop} {L : T → Sl} {HH : T → List It} {μ : T → Nat} {m : Nat} (t : T) (h0 : φ t) (hm : μ t < m) (hl : Cov (L t) l := by exact cov) (hH : Pk (HH t) H := by repeat constructor) : JQ n B (Exit.then (LI n (fun _ => B) φ L HH μ m) Q) .normal l H := JQ_round (B := fun _ => B) t h0 hm hl hH
theorem xE {T : Type} {φ : T → Prop} {L : T → Sl} {HH : T → List It} (t : T) (h0 : φ t) (hl : Cov (L t) l := by exact cov) (hH : Pk (HH t) H := by repeat constructor) : JQ n B (Exit.then (CutP n B φ L HH) Q) .normal l H := JQ_cut t h0 hl hH
/-! ### Panics -/
theorem JQ_then_p {K : Act → World → Prop} {ch : List PanicEntry} (h : JQ n B Q (.panic ch) l H) : JQ n B (Exit.then K Q) (.panic ch) l H := fun a w ha hw => h a w ha hw
theorem JQ_block_p {i : Nat} {ch : List PanicEntry} (h : JQ n B Q (.panic ch) l H) : JQ n B (Exit.inBlock i Q) (.panic ch) l H := fun a w ha hw => h a w ha hw
end
end Go.Proofs.YtmcpnoailbmkkaaGreat
/- The walk by live slots: runs of steps; calls, new memory, in short. Over any program. -/
namespace Go.Proofs.YtmcpnoailbmkkaaGreat
open Go Go.RowKit Go.Proofs Go.Shelf

section
variable {P : Program} {n : Nat} {B : Bs} {Q Q' : Exit → Act → World → Prop} {l l' : Sl} {H H' : List It} {ops : Array Oper} {rest : List Oper} {o : Oper} {c x y : Code} {ld lx ord : List Nat} {H0 Hx : List It} {fuel : Nat} {listed : Array Bool}
def isBin : Op → Bool | .binOp .. => true | _ => false
def isCall : Op → Bool | .call _ => true | _ => false
def isLoad : Op → Bool | .load .. => true | _ => false
def isStore : Op → Bool | .store .. => true | _ => false
theorem gBin {v : Value} (_hk : isBin o.op = true := by rfl) (h : RP P n l o v := by
 first
  | exact pLss rfl rfl rfl | exact pAdd rfl rfl rfl | exact pEql rfl rfl rfl | exact pNeq rfl rfl rfl | exact pLeq rfl rfl rfl | exact pGtr rfl rfl rfl | exact pGeq rfl rfl rfl
  | exact pSub rfl rfl rfl | exact pEqlS rfl rfl rfl | exact pNeqS rfl rfl rfl | exact pLssS rfl rfl rfl | exact pLeqS rfl rfl rfl | exact pMul rfl rfl rfl
  | exact pCatS rfl rfl rfl | exact pNeqK rfl rfl rfl | exact pLssK rfl rfl rfl | exact pGtrK rfl rfl rfl | exact pQuo rfl rfl rfl | exact pRem rfl rfl rfl) : RP P n l o v := h
theorem gCall {v : Value} (_hk : isCall o.op = true := by rfl) (h : RP P n l o v := by
 first | exact pLen rfl rfl | exact pLenS rfl rfl | exact pMax rfl rfl rfl | exact pMin rfl rfl rfl) : RP P n l o v := h
/-- An operation without memory. -/
theorem pAny {v : Value} (h : RP P n l o v := by
 first
  | exact rp_move rfl rfl | exact rp_assign rfl rfl | exact gBin | exact gCall | exact rp_pickT rfl rfl rfl | exact rp_pickF rfl rfl rfl | exact rp_nil rfl rfl
  | exact pFieldE rfl rfl | exact pField rfl rfl | exact pIdx rfl rfl rfl | exact pNot rfl rfl | exact pExt rfl rfl rfl | exact rp_func rfl rfl rfl) : RP P n l o v := h
/-- A read of a block that is known. -/
theorem vAny {v : Value} (_hk : isLoad o.op = true := by rfl) (h : RV P n B l H o v := by
 first
  | exact vCell rfl rfl (by repeat constructor) rfl
  | exact vAgg [_, _] rfl rfl rfl (by repeat constructor) rfl
  | exact vAgg [_, _, _] rfl rfl rfl (by repeat constructor) rfl
  | exact vAgg [_, _, _, _] rfl rfl rfl (by repeat constructor) rfl
  | exact vAgg [_, _, _, _, _] rfl rfl rfl (by repeat constructor) rfl
  | exact vAgg [_, _, _, _, _, _] rfl rfl rfl (by repeat constructor) rfl
  | exact vAgg [_, _, _, _, _, _, _] rfl rfl rfl (by repeat constructor) rfl
  | exact vAgg [_, _, _, _, _, _, _, _] rfl rfl rfl (by repeat constructor) rfl
  | exact vAgg [_] rfl rfl rfl (by repeat constructor) rfl) : RV P n B l H o v := h
/-- A store into a block that is known. -/
theorem wAnyS {m : Option It} (_hk : isStore o.op = true := by rfl) (h : OpW P n B m l H o (fun _ : Unit => True) (fun _ => l) (fun _ => H') := by
 first
  | exact wStore (cs := [_]) rfl rfl rfl rfl rfl rfl rfl (by repeat constructor) rfl rfl
  | exact wStore (cs := [_, _]) rfl rfl rfl rfl rfl rfl rfl (by repeat constructor) rfl rfl
  | exact wStore (cs := [_, _, _]) rfl rfl rfl rfl rfl rfl rfl (by repeat constructor) rfl rfl
  | exact wStore (cs := [_, _, _, _]) rfl rfl rfl rfl rfl rfl rfl (by repeat constructor) rfl rfl
  | exact wStore (cs := [_, _, _, _, _]) rfl rfl rfl rfl rfl rfl rfl (by repeat constructor) rfl rfl
  | exact wStore (cs := [_, _, _, _, _, _]) rfl rfl rfl rfl rfl rfl rfl (by repeat constructor) rfl rfl
  | exact wStore (cs := [_, _, _, _, _, _, _, _]) rfl rfl rfl rfl rfl rfl rfl (by repeat constructor) rfl rfl) : OpW P n B m l H o (fun _ : Unit => True) (fun _ => l) (fun _ => H') := h
theorem aW0 {m : Option It} (h : OpW P n B m l H o (fun _ : Unit => True) (fun _ => l) (fun _ => H')) (k : JL P n B ops Q rest l H') (hW : WN ops n l o true := by exact wAny) : JL P n B ops Q (o :: rest) l H := JL_op hW h (fun _ _ => k)
theorem dW0 {i : Nat} {m : Option It} (hi : ops[i]? = some o) (h : OpW P n B m l H o (fun _ : Unit => True) (fun _ => l) (fun _ => H')) (k : JD ord P n B ops Q ld H0 lx Hx fuel (listed.setIfInBounds i true) l H') (hr : Region.ready .any ops listed = [i] := by kernel_rfl) (hm : Kp ops ld lx Hx H i m := by first | exact trivial | exact ⟨by kernel_rfl, .inl (rfl : waitsB _ [] _ = true)⟩ | exact ⟨by kernel_rfl, .inr ⟨rfl, by repeat constructor⟩⟩) (hW : WN ops n l o true := by exact wAny) :
  JD (i :: ord) P n B ops Q ld H0 lx Hx (fuel + 1) listed l H := JA_one hr hi hW h hm (fun _ _ => k)
/-- What is left to show, in a wrap (a tactic might lay hold of it). -/
structure Wr (R : Prop) : Prop where out : R
attribute [local irreducible] J JQ JL JA JD
/-- One step: at an operation of a plain region; of a drawn one; at any place. -/
theorem a1 {R : Prop} (r : R) (h : Wr R → JL P n B ops Q (o :: rest) l H := by
 intro r
 first
  | exact aF r.out | exact aV vAny r.out | exact aW0 wAnyS r.out | exact aP pAny r.out | exact aF0 r.out) : JL P n B ops Q (o :: rest) l H := h ⟨r⟩
theorem d1 {R : Prop} (r : R) (h : Wr R → JD ord P n B ops Q ld H0 lx Hx fuel listed l H := by
 intro r
 first
  | exact dDone r.out | exact dF rfl wOff r.out | exact dL rfl vAny r.out | exact dX rfl vAny r.out | exact dW0 rfl wAnyS r.out | exact dP rfl pAny r.out | exact dFL rfl wOff r.out | exact dFX rfl wOff r.out) : JD ord P n B ops Q ld H0 lx Hx fuel listed l H := h ⟨r⟩
theorem c1 {R : Prop} (r : R) (h : Wr R → J P n B c Q l H := by
 intro r
 first
  | exact J_seq r.out | exact J_reg r.out | exact J_yes rfl rfl r.out | exact J_no rfl rfl r.out | exact J_skip r.out | exact J_block r.out | exact J_exit r.out | exact J_ret r.out | exact J_label r.out) : J P n B c Q l H := h ⟨r⟩
theorem q1 {e : Exit} {R : Prop} (r : R) (h : Wr R → JQ n B Q e l H := by
 intro r
 first
  | exact JQ_then_n r.out | exact JQ_then_x r.out | exact JQ_then_r r.out | exact JQ_block_n r.out | exact JQ_block_r r.out | exact JQ_block_y rfl r.out | exact JQ_block_x rfl r.out | exact JQ_then_p r.out | exact JQ_block_p r.out) : JQ n B Q e l H := h ⟨r⟩
theorem s1 {A R : Prop} (r : R) (h : Wr R → A := by
 intro r
 first
  | (show J _ _ _ _ _ _ _; exact c1 r.out)
  | (show JQ _ _ _ _ _ _; exact q1 r.out)
  | (show JL _ _ _ _ _ (_ :: _) _ _; exact a1 r.out)
  | (show JL _ _ _ _ _ [] _ _; exact JL_nil r.out)
  | (show JD _ _ _ _ _ _ _ _ _ _ _ _ _ _; exact d1 r.out)) : A := h ⟨r⟩
end
theorem s2 {A R : Prop} (r : R) (h : Wr R → A := by
 intro r
 iterate 2 refine s1 ?_
 exact r.out) : A := h ⟨r⟩
theorem s3 {A R : Prop} (r : R) (h : Wr R → A := by
 intro r
 iterate 3 refine s1 ?_
 exact r.out) : A := h ⟨r⟩
theorem s4 {A R : Prop} (r : R) (h : Wr R → A := by
 intro r
 iterate 4 refine s1 ?_
 exact r.out) : A := h ⟨r⟩
theorem s5 {A R : Prop} (r : R) (h : Wr R → A := by
 intro r
 iterate 5 refine s1 ?_
 exact r.out) : A := h ⟨r⟩
theorem s6 {A R : Prop} (r : R) (h : Wr R → A := by
 intro r
 iterate 6 refine s1 ?_
 exact r.out) : A := h ⟨r⟩
theorem s7 {A R : Prop} (r : R) (h : Wr R → A := by
 intro r
 iterate 7 refine s1 ?_
 exact r.out) : A := h ⟨r⟩
theorem s8 {A R : Prop} (r : R) (h : Wr R → A := by
 intro r
 iterate 8 refine s1 ?_
 exact r.out) : A := h ⟨r⟩
theorem s9 {A R : Prop} (r : R) (h : Wr R → A := by
 intro r
 iterate 9 refine s1 ?_
 exact r.out) : A := h ⟨r⟩
theorem s10 {A R : Prop} (r : R) (h : Wr R → A := by
 intro r
 iterate 10 refine s1 ?_
 exact r.out) : A := h ⟨r⟩
theorem s11 {A R : Prop} (r : R) (h : Wr R → A := by
 intro r
 iterate 11 refine s1 ?_
 exact r.out) : A := h ⟨r⟩
theorem s12 {A R : Prop} (r : R) (h : Wr R → A := by
 intro r
 iterate 12 refine s1 ?_
 exact r.out) : A := h ⟨r⟩
theorem s13 {A R : Prop} (r : R) (h : Wr R → A := by
 intro r
 iterate 13 refine s1 ?_
 exact r.out) : A := h ⟨r⟩
theorem s14 {A R : Prop} (r : R) (h : Wr R → A := by
 intro r
 iterate 14 refine s1 ?_
 exact r.out) : A := h ⟨r⟩
theorem s15 {A R : Prop} (r : R) (h : Wr R → A := by
 intro r
 iterate 15 refine s1 ?_
 exact r.out) : A := h ⟨r⟩
theorem s16 {A R : Prop} (r : R) (h : Wr R → A := by
 intro r
 iterate 16 refine s1 ?_
 exact r.out) : A := h ⟨r⟩
theorem s17 {A R : Prop} (r : R) (h : Wr R → A := by
 intro r
 iterate 17 refine s1 ?_
 exact r.out) : A := h ⟨r⟩
theorem s18 {A R : Prop} (r : R) (h : Wr R → A := by
 intro r
 iterate 18 refine s1 ?_
 exact r.out) : A := h ⟨r⟩
theorem s23 {A R : Prop} (r : R) (h : Wr R → A := by
 intro r
 iterate 23 refine s1 ?_
 exact r.out) : A := h ⟨r⟩
theorem s24 {A R : Prop} (r : R) (h : Wr R → A := by
 intro r
 iterate 24 refine s1 ?_
 exact r.out) : A := h ⟨r⟩
theorem s28 {A R : Prop} (r : R) (h : Wr R → A := by
 intro r
 iterate 28 refine s1 ?_
 exact r.out) : A := h ⟨r⟩
section
variable {P : Program} {n : Nat} {B : Bs} {Q : Exit → Act → World → Prop} {l : Sl} {H : List It} {ops : Array Oper} {rest : List Oper} {o : Oper} {ld lx ord : List Nat} {H0 Hx : List It} {fuel : Nat} {listed : Array Bool}
/-! ### Calls of functions -/
theorem ecF {f : FuncId} {xs : List Operand} {ts : Array TypeId} {vs : List Value} [h : Cf P f] (ho : o.op = .call { callee := .value (.func f), args := xs.toArray, argTypes := ts }) (hx : evs l xs = some vs) : EC P n l o f vs.toArray := ec_fn ho hx h.h
theorem oB {f : FuncId} {xs : List Operand} {ts : Array TypeId} {vs : List Value} {v : Value} {d : Nat} [h : Cf P f] (hC : ∀ w, Wd B H w → Calls P f vs.toArray w (fun e w' => e = .returned v ∧ Below w.heap.size w w')) (ho : o.op = .call { callee := .value (.func f), args := xs.toArray, argTypes := ts } := by rfl) (hx : evs l xs = some vs := by rfl) (hd : o.dst = some d := by rfl) (hn : Nat.ble n d = false := by rfl) : OpW P n B none l H o (fun _ : Unit => True) (fun _ => (d, v) :: l) (fun _ => H) := ow_callB (ecF ho hx) hd hn hC
theorem aCB {f : FuncId} {xs : List Operand} {ts : Array TypeId} {vs : List Value} {v : Value} {d : Nat} [h : Cf P f] (hC : ∀ w, Wd B H w → Calls P f vs.toArray w (fun e w' => e = .returned v ∧ Below w.heap.size w w')) (k : JL P n B ops Q rest ((d, v) :: l) H) (ho : o.op = .call { callee := .value (.func f), args := xs.toArray, argTypes := ts } := by rfl) (hx : evs l xs = some vs := by rfl) (hd : o.dst = some d := by rfl) (hW : WN ops n l o true := by exact wAny) (hn : Nat.ble n d = false := by rfl) : JL P n B ops Q (o :: rest) l H := JL_op hW (oB hC ho hx hd hn) (fun _ _ => k)
theorem dCB {i : Nat} {f : FuncId} {xs : List Operand} {ts : Array TypeId} {vs : List Value} {v : Value} {d : Nat} [h : Cf P f] (hi : ops[i]? = some o) (hC : ∀ w, Wd B H w → Calls P f vs.toArray w (fun e w' => e = .returned v ∧ Below w.heap.size w w')) (k : JD ord P n B ops Q ld H0 lx Hx fuel (listed.setIfInBounds i true) ((d, v) :: l) H) (ho : o.op = .call { callee := .value (.func f), args := xs.toArray, argTypes := ts } := by rfl) (hx : evs l xs = some vs := by rfl) (hd : o.dst = some d := by rfl) (hr : Region.ready .any ops listed = [i] := by kernel_rfl) (hW : WN ops n l o true := by exact wAny) (hn : Nat.ble n d = false := by rfl) : JD (i :: ord) P n B ops Q ld H0 lx Hx (fuel + 1) listed l H := JA_one (m := none) hr hi hW (oB hC ho hx hd hn) trivial (fun _ _ => k)
theorem Back.of {v : Value} {w w' : World} {e : Ending} (h : e = .returned v ∧ w = w') : Back v w e w' := ⟨h.1, by rw [← h.2]; exact Below.refl _ _⟩
theorem oR {f : FuncId} {xs : List Operand} {ts : Array TypeId} {vs : List Value} {T : Type} {φ : T → Prop} {V : T → Value} {G : T → List It} {d : Nat} [h : Cf P f] (hC : ∀ w, Wd B H w → Calls P f vs.toArray w (Ret w φ V G)) (ho : o.op = .call { callee := .value (.func f), args := xs.toArray, argTypes := ts } := by rfl) (hx : evs l xs = some vs := by rfl) (hd : o.dst = some d := by rfl) (hn : Nat.ble n d = false := by rfl) (hr : ∀ t, ((G t).all fun A => !A.ro) = true := by exact fun _ => rfl) : OpW P n B none l H o φ (fun t => (d, V t) :: l) (fun t => G t ++ H) := ow_callR (ecF ho hx) hd hn hr hC
theorem oM {A : It} {T : Type} {φ : T → Prop} {V : T → Value} {C : T → It} {G : T → List It} {f : FuncId} {xs : List Operand} {ts : Array TypeId} {vs : List Value} {d : Nat} [h : Cf P f] (hC : ∀ w, Wd B H w → Calls P f vs.toArray w (RetM A φ V C w)) (ho : o.op = .call { callee := .value (.func f), args := xs.toArray, argTypes := ts } := by rfl) (hx : evs l xs = some vs := by rfl) (hd : o.dst = some d := by rfl) (hn : Nat.ble n d = false := by rfl) (hAr : A.ro = false := by rfl) (hCr : ∀ t, (C t).ro = false := by exact fun _ => rfl) (hat : ∀ t, At A (C t) H (G t) := by intro t; repeat constructor) : OpW P n B (some A) l H o φ (fun t => (d, V t) :: l) G := ow_callM (ecF ho hx) hd hn hAr hCr hat hC
/-! ### New memory -/
theorem oApp {α : Type} {k : Nat} {enc : α → List Value} (E : Enc k enc) {sl e ty' : TypeId} {z : Value} {bytes d : Nat} {x y : Operand} {A : Option Addr} {c c' b : Nat} {L : List α} {cs : List Value} {G : Option Addr → Nat → List It} (r : α) [u : Und P sl (.slice e)] [i : Inf P e z k bytes] (ho : o.op = .call { callee := .builtin .append, args := #[x, y], argTypes := #[sl, sl] } := by rfl) (hk : 0 < k := by decide) (hzs : z.cells.size = k := by rfl) (hby : bytes ≤ 128 := by decide) (hd : o.dst = some d := by rfl) (hn : Nat.ble n d = false := by rfl) (hx : evl l x = some (.slice A L.length c) := by rfl) (hy : evl l y = some (.slice (some ⟨b, 0, none⟩) 1 c') := by rfl) (hm : cellB b cs ty' ∈ H := by repeat constructor) (hcs : cs = enc r := by rfl) (hl : L.length + 1 ≤ 1000000 := by omega)
  (hat : ∀ A' c', At (ownB e k A L.length c (L.flatMap enc)) (ownB e k A' (L ++ [r]).length c' ((L ++ [r]).flatMap enc)) H (G A' c') := by intro A c; repeat constructor) : OpS P n B (some (ownB e k A L.length c (L.flatMap enc))) l H o (fun A' c' => (d, .slice A' (L ++ [r]).length c') :: l) G := ow_app1 E hk r u.h i.h hzs hby ho hd hn hx hy hm hcs hl hat
theorem oA {d : Nat} {ty : TypeId} {v : Value} {vs : List Value} [z : Zer P ty v] (ho : o.op = .alloc ty := by rfl) (hv : v.cells = vs.toArray := by rfl) (hd : o.dst = some d := by rfl) (hn : Nat.ble n d = false := by rfl) : OpW P n B none l H o (fun b : Nat => B.w.heap.size ≤ b) (fun b => (d, .pointer (some ⟨b, 0, none⟩)) :: l) (fun b => cellB b vs ty :: H) := ow_alloc ho hd z.h hv hn
theorem oX {d : Nat} {x : Operand} {v : Value} {ty : TypeId} (vs : List Value) (ho : o.op = .box ty x := by rfl) (hx : evl l x = some v := by rfl) (hv : v.cells = vs.toArray := by rfl) (hd : o.dst = some d := by rfl) (hn : Nat.ble n d = false := by rfl) : OpW P n B none l H o (fun b : Nat => B.w.heap.size ≤ b) (fun b => (d, .pointer (some ⟨b, 0, none⟩)) :: l) (fun b => cellB b vs ty :: H) := ow_box ho hx hv hd hn
end
end Go.Proofs.YtmcpnoailbmkkaaGreat
/- Closed facts of the program, as instances. -/
namespace Go.Proofs.YtmcpnoailbmkkaaGreat
open Go Go.RowKit Go.Proofs

instance : Und Tryz.prog 3 (.int .i64) := ⟨by kernel_rfl⟩
instance : Und Tryz.prog 4 .bool := ⟨by kernel_rfl⟩
instance : Und Tryz.prog 22 (.slice 60) := ⟨by kernel_rfl⟩
instance : Und Tryz.prog 27 (.slice 3) := ⟨by kernel_rfl⟩
instance : Und Tryz.prog 31 (.slice 47) := ⟨by kernel_rfl⟩
instance : Und Tryz.prog 34 (.slice 38) := ⟨by kernel_rfl⟩
instance : Und Tryz.prog 45 (.int .i64) := ⟨by kernel_rfl⟩
instance : Und Tryz.prog 64 (.map 66 4) := ⟨by kernel_rfl⟩
instance : Und Tryz.prog 74 (.slice 47) := ⟨by kernel_rfl⟩
instance : Und Tryz.prog 75 (.array 2 74) := ⟨by kernel_rfl⟩
instance : Und Tryz.prog 78 (.map 38 4) := ⟨by kernel_rfl⟩
instance : Und Tryz.prog 92 (.int .u64) := ⟨by kernel_rfl⟩
instance : Und Tryz.prog 109 (.map 110 4) := ⟨by kernel_rfl⟩
instance : Und Tryz.prog 110 (.array 2 3) := ⟨by kernel_rfl⟩
instance : Und Tryz.prog 121 (.int .u64) := ⟨by kernel_rfl⟩
instance : Und Tryz.prog 125 (.slice 45) := ⟨by kernel_rfl⟩
instance : Und Tryz.prog 132 (.slice 52) := ⟨by kernel_rfl⟩
instance : Und Tryz.prog 151 (.array 2 45) := ⟨by kernel_rfl⟩
instance : Siz Tryz.prog 3 1 := ⟨fun _ => by kernel_rfl⟩
instance : Siz Tryz.prog 22 1 := ⟨fun _ => by kernel_rfl⟩
instance : Siz Tryz.prog 24 1 := ⟨fun _ => by kernel_rfl⟩
instance : Siz Tryz.prog 27 1 := ⟨fun _ => by kernel_rfl⟩
instance : Siz Tryz.prog 38 2 := ⟨fun _ => by kernel_rfl⟩
instance : Siz Tryz.prog 45 1 := ⟨fun _ => by kernel_rfl⟩
instance : Siz Tryz.prog 47 3 := ⟨fun _ => by kernel_rfl⟩
instance : Siz Tryz.prog 52 2 := ⟨fun _ => by kernel_rfl⟩
instance : Siz Tryz.prog 54 7 := ⟨fun _ => by kernel_rfl⟩
instance : Siz Tryz.prog 57 5 := ⟨fun _ => by kernel_rfl⟩
instance : Siz Tryz.prog 60 4 := ⟨fun _ => by kernel_rfl⟩
instance : Siz Tryz.prog 66 2 := ⟨fun _ => by kernel_rfl⟩
instance : Siz Tryz.prog 74 1 := ⟨fun _ => by kernel_rfl⟩
instance : Siz Tryz.prog 75 2 := ⟨fun _ => by kernel_rfl⟩
instance : Siz Tryz.prog 78 1 := ⟨fun _ => by kernel_rfl⟩
instance : Siz Tryz.prog 92 1 := ⟨fun _ => by kernel_rfl⟩
instance : Siz Tryz.prog 94 2 := ⟨fun _ => by kernel_rfl⟩
instance : Siz Tryz.prog 108 1 := ⟨fun _ => by kernel_rfl⟩
instance : Siz Tryz.prog 110 2 := ⟨fun _ => by kernel_rfl⟩
instance : Siz Tryz.prog 123 1 := ⟨fun _ => by kernel_rfl⟩
instance : Agg Tryz.prog 3 false := ⟨fun _ => by kernel_rfl⟩
instance : Agg Tryz.prog 22 false := ⟨fun _ => by kernel_rfl⟩
instance : Agg Tryz.prog 24 false := ⟨fun _ => by kernel_rfl⟩
instance : Agg Tryz.prog 27 false := ⟨fun _ => by kernel_rfl⟩
instance : Agg Tryz.prog 38 true := ⟨fun _ => by kernel_rfl⟩
instance : Agg Tryz.prog 45 false := ⟨fun _ => by kernel_rfl⟩
instance : Agg Tryz.prog 47 true := ⟨fun _ => by kernel_rfl⟩
instance : Agg Tryz.prog 52 true := ⟨fun _ => by kernel_rfl⟩
instance : Agg Tryz.prog 54 true := ⟨fun _ => by kernel_rfl⟩
instance : Agg Tryz.prog 57 true := ⟨fun _ => by kernel_rfl⟩
instance : Agg Tryz.prog 60 true := ⟨fun _ => by kernel_rfl⟩
instance : Agg Tryz.prog 66 true := ⟨fun _ => by kernel_rfl⟩
instance : Agg Tryz.prog 74 false := ⟨fun _ => by kernel_rfl⟩
instance : Agg Tryz.prog 75 true := ⟨fun _ => by kernel_rfl⟩
instance : Agg Tryz.prog 78 false := ⟨fun _ => by kernel_rfl⟩
instance : Agg Tryz.prog 92 false := ⟨fun _ => by kernel_rfl⟩
instance : Agg Tryz.prog 94 true := ⟨fun _ => by kernel_rfl⟩
instance : Agg Tryz.prog 108 false := ⟨fun _ => by kernel_rfl⟩
instance : Agg Tryz.prog 110 true := ⟨fun _ => by kernel_rfl⟩
instance : Zer Tryz.prog 3 (.int .i64 0) := ⟨fun _ => by kernel_rfl⟩
instance : Zer Tryz.prog 4 (.bool false) := ⟨fun _ => by kernel_rfl⟩
instance : Zer Tryz.prog 24 (.int .i64 0) := ⟨fun _ => by kernel_rfl⟩
instance : Zer Tryz.prog 27 (.slice none 0 0) := ⟨fun _ => by kernel_rfl⟩
instance : Zer Tryz.prog 38 (.agg #[.int .i64 0, .int .i64 0]) := ⟨fun _ => by kernel_rfl⟩
instance : Zer Tryz.prog 45 (.int .i64 0) := ⟨fun _ => by kernel_rfl⟩
instance : Zer Tryz.prog 47 (.agg #[.int .i64 0, .int .i64 0, .int .i64 0]) := ⟨fun _ => by kernel_rfl⟩
instance : Zer Tryz.prog 54 (.agg #[.int .i64 0, .int .i64 0, .int .i64 0, .int .i64 0, .int .i64 0, .slice none 0 0, .slice none 0 0]) := ⟨fun _ => by kernel_rfl⟩
instance : Zer Tryz.prog 60 (.agg #[.int .i64 0, .int .i64 0, .int .i64 0, .int .i64 0]) := ⟨fun _ => by kernel_rfl⟩
instance : Zer Tryz.prog 66 (.agg #[.int .i64 0, .int .i64 0]) := ⟨fun _ => by kernel_rfl⟩
instance : Zer Tryz.prog 74 (.slice none 0 0) := ⟨fun _ => by kernel_rfl⟩
instance : Zer Tryz.prog 75 (.agg #[.slice none 0 0, .slice none 0 0]) := ⟨fun _ => by kernel_rfl⟩
instance : Zer Tryz.prog 78 (.map none) := ⟨fun _ => by kernel_rfl⟩
instance : Zer Tryz.prog 94 (.agg #[.int .u64 0, .int .u64 0]) := ⟨fun _ => by kernel_rfl⟩
instance : Zer Tryz.prog 110 (.agg #[.int .i64 0, .int .i64 0]) := ⟨fun _ => by kernel_rfl⟩
instance : Zer Tryz.prog 123 (.agg #[.int .i64 0]) := ⟨fun _ => by kernel_rfl⟩
instance : Fof Tryz.prog 38 0 0 := ⟨fun _ _ _ => by kernel_rfl⟩
instance : Fof Tryz.prog 38 1 1 := ⟨fun _ _ _ => by kernel_rfl⟩
instance : Fof Tryz.prog 47 0 0 := ⟨fun _ _ _ => by kernel_rfl⟩
instance : Fof Tryz.prog 47 1 1 := ⟨fun _ _ _ => by kernel_rfl⟩
instance : Fof Tryz.prog 47 2 2 := ⟨fun _ _ _ => by kernel_rfl⟩
instance : Fof Tryz.prog 52 0 0 := ⟨fun _ _ _ => by kernel_rfl⟩
instance : Fof Tryz.prog 52 1 1 := ⟨fun _ _ _ => by kernel_rfl⟩
instance : Fof Tryz.prog 54 0 0 := ⟨fun _ _ _ => by kernel_rfl⟩
instance : Fof Tryz.prog 54 1 2 := ⟨fun _ _ _ => by kernel_rfl⟩
instance : Fof Tryz.prog 54 2 3 := ⟨fun _ _ _ => by kernel_rfl⟩
instance : Fof Tryz.prog 54 3 4 := ⟨fun _ _ _ => by kernel_rfl⟩
instance : Fof Tryz.prog 54 4 5 := ⟨fun _ _ _ => by kernel_rfl⟩
instance : Fof Tryz.prog 54 5 6 := ⟨fun _ _ _ => by kernel_rfl⟩
instance : Fof Tryz.prog 57 0 0 := ⟨fun _ _ _ => by kernel_rfl⟩
instance : Fof Tryz.prog 57 1 1 := ⟨fun _ _ _ => by kernel_rfl⟩
instance : Fof Tryz.prog 57 2 2 := ⟨fun _ _ _ => by kernel_rfl⟩
instance : Fof Tryz.prog 57 3 3 := ⟨fun _ _ _ => by kernel_rfl⟩
instance : Fof Tryz.prog 57 4 4 := ⟨fun _ _ _ => by kernel_rfl⟩
instance : Fof Tryz.prog 60 0 0 := ⟨fun _ _ _ => by kernel_rfl⟩
instance : Fof Tryz.prog 60 1 1 := ⟨fun _ _ _ => by kernel_rfl⟩
instance : Fof Tryz.prog 60 2 2 := ⟨fun _ _ _ => by kernel_rfl⟩
instance : Fof Tryz.prog 94 0 0 := ⟨fun _ _ _ => by kernel_rfl⟩
instance : Fof Tryz.prog 94 1 1 := ⟨fun _ _ _ => by kernel_rfl⟩
instance : Fof Tryz.prog 123 0 0 := ⟨fun _ _ _ => by kernel_rfl⟩
instance : Inf Tryz.prog 3 (.int .i64 0) 1 8 := ⟨by kernel_rfl⟩
instance : Inf Tryz.prog 38 (.agg #[.int .i64 0, .int .i64 0]) 2 16 := ⟨by kernel_rfl⟩
instance : Inf Tryz.prog 47 (.agg #[.int .i64 0, .int .i64 0, .int .i64 0]) 3 24 := ⟨by kernel_rfl⟩
instance : Cf Tryz.prog 4 := ⟨fun _ _ => by kernel_rfl⟩
instance : Cf Tryz.prog 5 := ⟨fun _ _ => by kernel_rfl⟩
instance : Cf Tryz.prog 6 := ⟨fun _ _ => by kernel_rfl⟩
instance : Cf Tryz.prog 7 := ⟨fun _ _ => by kernel_rfl⟩
instance : Cf Tryz.prog 8 := ⟨fun _ _ => by kernel_rfl⟩
instance : Cf Tryz.prog 9 := ⟨fun _ _ => by kernel_rfl⟩
instance : Cf Tryz.prog 10 := ⟨fun _ _ => by kernel_rfl⟩
instance : Cf Tryz.prog 11 := ⟨fun _ _ => by kernel_rfl⟩
instance : Cf Tryz.prog 12 := ⟨fun _ _ => by kernel_rfl⟩
instance : Cf Tryz.prog 13 := ⟨fun _ _ => by kernel_rfl⟩
instance : Cf Tryz.prog 14 := ⟨fun _ _ => by kernel_rfl⟩
instance : Cf Tryz.prog 15 := ⟨fun _ _ => by kernel_rfl⟩
instance : Cf Tryz.prog 16 := ⟨fun _ _ => by kernel_rfl⟩
instance : Cf Tryz.prog 17 := ⟨fun _ _ => by kernel_rfl⟩
instance : Cf Tryz.prog 18 := ⟨fun _ _ => by kernel_rfl⟩
instance : Cf Tryz.prog 19 := ⟨fun _ _ => by kernel_rfl⟩
instance : Cf Tryz.prog 20 := ⟨fun _ _ => by kernel_rfl⟩
instance : Cf Tryz.prog 21 := ⟨fun _ _ => by kernel_rfl⟩
instance : Cf Tryz.prog 22 := ⟨fun _ _ => by kernel_rfl⟩
instance : Cf Tryz.prog 23 := ⟨fun _ _ => by kernel_rfl⟩
instance : Cf Tryz.prog 24 := ⟨fun _ _ => by kernel_rfl⟩
instance : Cf Tryz.prog 25 := ⟨fun _ _ => by kernel_rfl⟩
instance : Cf Tryz.prog 26 := ⟨fun _ _ => by kernel_rfl⟩
instance : Cf Tryz.prog 27 := ⟨fun _ _ => by kernel_rfl⟩
instance : Cf Tryz.prog 28 := ⟨fun _ _ => by kernel_rfl⟩
instance : Cf Tryz.prog 29 := ⟨fun _ _ => by kernel_rfl⟩
instance : Cf Tryz.prog 31 := ⟨fun _ _ => by kernel_rfl⟩
instance : Cf Tryz.prog 32 := ⟨fun _ _ => by kernel_rfl⟩
instance : Cf Tryz.prog 33 := ⟨fun _ _ => by kernel_rfl⟩
instance : Cf Tryz.prog 34 := ⟨fun _ _ => by kernel_rfl⟩
instance : Cf Tryz.prog 35 := ⟨fun _ _ => by kernel_rfl⟩
instance : Cf Tryz.prog 36 := ⟨fun _ _ => by kernel_rfl⟩
instance : Cf Tryz.prog 37 := ⟨fun _ _ => by kernel_rfl⟩
instance : Cf Tryz.prog 38 := ⟨fun _ _ => by kernel_rfl⟩
instance : Cf Tryz.prog 39 := ⟨fun _ _ => by kernel_rfl⟩
instance : Cf Tryz.prog 40 := ⟨fun _ _ => by kernel_rfl⟩
instance : Cf Tryz.prog 41 := ⟨fun _ _ => by kernel_rfl⟩
instance : Cf Tryz.prog 42 := ⟨fun _ _ => by kernel_rfl⟩
instance : Cf Tryz.prog 43 := ⟨fun _ _ => by kernel_rfl⟩
instance : Cf Tryz.prog 44 := ⟨fun _ _ => by kernel_rfl⟩
instance : Cf Tryz.prog 45 := ⟨fun _ _ => by kernel_rfl⟩
instance : Cf Tryz.prog 46 := ⟨fun _ _ => by kernel_rfl⟩
instance : Cf Tryz.prog 47 := ⟨fun _ _ => by kernel_rfl⟩
instance : Cf Tryz.prog 48 := ⟨fun _ _ => by kernel_rfl⟩
instance : Cf Tryz.prog 50 := ⟨fun _ _ => by kernel_rfl⟩
instance : Cf Tryz.prog 51 := ⟨fun _ _ => by kernel_rfl⟩
instance : Cf Tryz.prog 52 := ⟨fun _ _ => by kernel_rfl⟩
instance : Cf Tryz.prog 53 := ⟨fun _ _ => by kernel_rfl⟩
instance : Cf Tryz.prog 54 := ⟨fun _ _ => by kernel_rfl⟩
instance : Cf Tryz.prog 55 := ⟨fun _ _ => by kernel_rfl⟩
instance : Cf Tryz.prog 56 := ⟨fun _ _ => by kernel_rfl⟩
instance : Cf Tryz.prog 57 := ⟨fun _ _ => by kernel_rfl⟩
instance : Cf Tryz.prog 58 := ⟨fun _ _ => by kernel_rfl⟩
instance : Cf Tryz.prog 59 := ⟨fun _ _ => by kernel_rfl⟩
instance : Cf Tryz.prog 62 := ⟨fun _ _ => by kernel_rfl⟩
instance : Cf Tryz.prog 67 := ⟨fun _ _ => by kernel_rfl⟩
instance : Cf Tryz.prog 68 := ⟨fun _ _ => by kernel_rfl⟩
instance : Cf Tryz.prog 69 := ⟨fun _ _ => by kernel_rfl⟩
instance : Cf Tryz.prog 70 := ⟨fun _ _ => by kernel_rfl⟩
instance : Cf Tryz.prog 71 := ⟨fun _ _ => by kernel_rfl⟩
instance : Cf Tryz.prog 72 := ⟨fun _ _ => by kernel_rfl⟩
instance : Cf Tryz.prog 73 := ⟨fun _ _ => by kernel_rfl⟩
instance : Cf Tryz.prog 74 := ⟨fun _ _ => by kernel_rfl⟩
instance : Cf Tryz.prog 75 := ⟨fun _ _ => by kernel_rfl⟩
instance : Cf Tryz.prog 76 := ⟨fun _ _ => by kernel_rfl⟩
instance : Cf Tryz.prog 77 := ⟨fun _ _ => by kernel_rfl⟩
instance : Cf Tryz.prog 79 := ⟨fun _ _ => by kernel_rfl⟩
instance : Cf Tryz.prog 80 := ⟨fun _ _ => by kernel_rfl⟩
instance : Cf Tryz.prog 81 := ⟨fun _ _ => by kernel_rfl⟩
instance : Cf Tryz.prog 82 := ⟨fun _ _ => by kernel_rfl⟩
instance : Cf Tryz.prog 83 := ⟨fun _ _ => by kernel_rfl⟩
instance : Cf Tryz.prog 84 := ⟨fun _ _ => by kernel_rfl⟩
instance : Cf Tryz.prog 86 := ⟨fun _ _ => by kernel_rfl⟩
instance : Cf Tryz.prog 89 := ⟨fun _ _ => by kernel_rfl⟩
instance : Cf Tryz.prog 91 := ⟨fun _ _ => by kernel_rfl⟩
instance : Cf Tryz.prog 102 := ⟨fun _ _ => by kernel_rfl⟩
instance : Cf Tryz.prog 103 := ⟨fun _ _ => by kernel_rfl⟩
instance : Cf Tryz.prog 105 := ⟨fun _ _ => by kernel_rfl⟩
instance : Cf Tryz.prog 106 := ⟨fun _ _ => by kernel_rfl⟩
instance : Cf Tryz.prog 107 := ⟨fun _ _ => by kernel_rfl⟩
instance : Cf Tryz.prog 108 := ⟨fun _ _ => by kernel_rfl⟩
instance : Cf Tryz.prog 110 := ⟨fun _ _ => by kernel_rfl⟩
instance : Cf Tryz.prog 111 := ⟨fun _ _ => by kernel_rfl⟩
instance : Cf Tryz.prog 112 := ⟨fun _ _ => by kernel_rfl⟩
instance : Cf Tryz.prog 113 := ⟨fun _ _ => by kernel_rfl⟩
instance : Cf Tryz.prog 114 := ⟨fun _ _ => by kernel_rfl⟩
instance : Cf Tryz.prog 115 := ⟨fun _ _ => by kernel_rfl⟩
instance : Cf Tryz.prog 117 := ⟨fun _ _ => by kernel_rfl⟩
instance : Cf Tryz.prog 118 := ⟨fun _ _ => by kernel_rfl⟩
instance : Cf Tryz.prog 125 := ⟨fun _ _ => by kernel_rfl⟩
instance : Cf Tryz.prog 126 := ⟨fun _ _ => by kernel_rfl⟩
instance : Cf Tryz.prog 127 := ⟨fun _ _ => by kernel_rfl⟩
instance : Cf Tryz.prog 129 := ⟨fun _ _ => by kernel_rfl⟩
instance : Cf Tryz.prog 130 := ⟨fun _ _ => by kernel_rfl⟩
theorem ia_75_0 : ∀ (b off : Nat) (w : World), (Instr.indexAt 75 (.pointer (some ⟨b, off, none⟩)) (.int .i64 0)).run Tryz.prog w = .ok (.pointer (some ⟨b, off + 0, none⟩)) w := fun _ _ _ => by kernel_rfl
theorem ia_75_1 : ∀ (b off : Nat) (w : World), (Instr.indexAt 75 (.pointer (some ⟨b, off, none⟩)) (.int .i64 1)).run Tryz.prog w = .ok (.pointer (some ⟨b, off + 1, none⟩)) w := fun _ _ _ => by kernel_rfl
end Go.Proofs.YtmcpnoailbmkkaaGreat
/- Maps of the call's own, with a bound on their entries; an entry that is laid first and written then. Over any program. -/
namespace Go.Proofs.YtmcpnoailbmkkaaGreat
open Go Go.RowKit Go.Proofs Go.Shelf Go.ChangeMaps

def mapK (P : Program) {α β : Type} (kt e : TypeId) (kv : α → Value) (ok : α → Prop) (ed : β → DataW Unit) (b k : Nat) (m : α → Option β) : It where
 foot x := x = b
 holds w := ∃ n c, n ≤ k ∧ MapF P kt e kv ok ed w b n c m
 st _ _ h h1 := by obtain ⟨n, c, h0, h1⟩ := h1; exact ⟨n, c, h0, h1.heap (h b rfl)⟩
section
variable {P : Program} {α β : Type} {kt e t : TypeId} {kv : α → Value} {ok : α → Prop} {ev : β → Value} {ed : β → DataW Unit} {z : β} {okE : β → Prop}
variable {n : Nat} {B : Bs} {Q : Exit → Act → World → Prop} {l : Sl} {H H' : List It} {ops : Array Oper} {rest : List Oper} {o : Oper} {x y q : Operand}
end
end Go.Proofs.YtmcpnoailbmkkaaGreat
/- A range over a map of the call's own. Over any program. -/
namespace Go.Proofs.YtmcpnoailbmkkaaGreat
open Go Go.RowKit Go.Proofs Go.Shelf

section
variable {P : Program} {α β : Type} [DecidableEq α] {kt e t : TypeId} {kv : α → Value} {ok : α → Prop} {ev : β → Value} {ed : β → DataW Unit} {z : β} {okE : β → Prop}
theorem entry_same {r b : Nat} {es : Array MapEntry} {clock since c0 : Nat} {seen : Array Nat} {w w' : World} {v : Value} (hr : w.heap[r]? = some (.mapIter (some b) since seen c0)) (hb : w.heap[b]? = some (.map es clock)) (hr' : w'.heap[r]? = w.heap[r]?) (hb' : w'.heap[b]? = w.heap[b]?)
  (h : (Instr.entry (.pointer (some ⟨r, 0, none⟩))).run P w = .ok v w) : (Instr.entry (.pointer (some ⟨r, 0, none⟩))).run P w' = .ok v w' := by
 have hr2 := hr'.trans hr
 have hb2 := hb'.trans hb
 cases h1 : seen.back? with
 | none => simp [Instr.entry, getObj, Sem.run, hr, Result.andThen, h1] at h
 | some s =>
  by_cases h2 : clock = c0
  ·cases h3 : es.find? (·.born == s) with
   | none => simp [Instr.entry, getObj, Sem.run, hr, hb, Result.andThen, h1, h2, h3] at h
   | some x =>
    simp [Instr.entry, getObj, Sem.run, hr, hb, Result.andThen, h1, h2, h3] at h
    simp [Instr.entry, getObj, Sem.run, hr2, hb2, Result.andThen, h1, h2, h3, h]
  ·simp [Instr.entry, getObj, Sem.run, hr, hb, Result.andThen, h1, h2] at h
/-- A map over which a range runs: S are the keys that were met, cnt are still to come; last is the one that was met last. -/
def rngK (P : Program) {α β : Type} [DecidableEq α] (kt e : TypeId) (kv : α → Value) (ok : α → Prop) (ev : β → Value) (ed : β → DataW Unit) (b r k cnt : Nat) (m : α → Option β) (S : List α) (last : Option (α × β)) : It where
 foot i := i = b ∨ i = r
 holds w := ∃ (n : Nat) (D : DataW Unit) (left : Lit → Bool), n ≤ k ∧ w.ranges P kt (rdE P e) b r n D left cnt ∧ (∀ x kl, ok x → keyOf P kt (kv x) = some kl → Maps.has D kl = (m x).isSome ∧ (∀ u, D.atKey kl u = match m x with | some v => ed v | none => u) ∧ left kl = ((m x).isSome && decide (x ∉ S))) ∧
  ∀ x v, last = some (x, v) → (Instr.entry (.pointer (some ⟨r, 0, none⟩))).run P w = .ok (.tuple #[kv x, ev v]) w
 st w w' h h1 := by
  obtain ⟨n, D, left, h0, ⟨es, clock, since, seen, c0, q1, q2, q3, q4, q5, q6⟩, h2, h3⟩ := h1
  refine ⟨n, D, left, h0, ⟨es, clock, since, seen, c0, (h b (.inl rfl)).trans q1, q2, q3, q4, (h r (.inr rfl)).trans q5, q6⟩, h2, fun x v hx => entry_same q5 q1 (h r (.inr rfl)) (h b (.inl rfl)) (h3 x v hx)⟩
variable {n : Nat} {B : Bs} {Q : Exit → Act → World → Prop} {l : Sl} {H H' : List It} {o : Oper} {x y q : Operand}
theorem ow_range {d b m' : Nat} {f : α → Option β} {G : Nat → Nat → List It} (K : KeyL P kt kv ok) (ht : P.underlying t = some (.map kt e)) (ho : o.op = .range t x) (hd : o.dst = some d) (hn : Nat.ble n d = false) (hx : evl l x = some (.map (some b))) (hat : ∀ r c, At (mapK P kt e kv ok ed b m' f) (rngK P kt e kv ok ev ed b r m' c f [] none) H (G r c)) :
  OpW P n B (some (mapK P kt e kv ok ed b m' f)) l H o (T := Nat × Nat) (fun t => B.w.heap.size ≤ t.1) (fun t => (d, .pointer (some ⟨t.1, 0, none⟩)) :: l) (fun t => G t.1 t.2) :=
 OpW.of_run (T := Nat × Nat) hd hn (V := fun t => .pointer (some ⟨t.1, 0, none⟩)) (fun a w ha hw => by
  obtain ⟨n0, c, h0, D, h1, h2, h3⟩ := (hw.ok _ (hat 0 0).mem).1
  obtain ⟨w', r1, r2, r3, r4⟩ := h1.range K.law ht
  have hcg : Chg (mapK P kt e kv ok ed b m' f) w w' := ⟨r3.os, r3.tape, r3.output, r3.size, fun i hi _ => r3.block i hi (by simp)⟩
  refine ⟨(w.heap.size, Maps.size D), w', hw.size, by unfold execOp; rw [ho]; simp only [ha.ev hx, Sem.run_bind, r1, Result.andThen_ok, Sem.run_pure], hw.chg (hat w.heap.size (Maps.size D)) rfl rfl hcg ⟨n0, D, _, h0, r2, fun x kl hx' hk => ?_, fun _ _ h => by cases h⟩ (fun i hi => ?_), hcg⟩
  ·obtain ⟨q1, q2⟩ := h3 x kl hx' hk
   exact ⟨q1, q2, by simp [q1]⟩
  ·rcases hi with rfl | rfl
   ·exact ⟨.inl rfl, by rw [r4]; exact Nat.lt_succ_of_lt h1.lt⟩
   ·exact ⟨.inr (Nat.le_refl _), by rw [r4]; exact Nat.lt_succ_self _⟩)
def nxV (kv : α → Value) (ev : β → Value) : Option (α × β × Nat) → Value
 | none => .tuple #[.bool false]
 | some (x, v, _) => .tuple #[.bool true, kv x, ev v]
def nxP (ok : α → Prop) (f : α → Option β) (S : List α) (cnt : Nat) : Option (α × β × Nat) → Prop
 | none => ∀ x, ok x → (f x).isSome = true → x ∈ S
 | some (x, v, c') => ok x ∧ f x = some v ∧ x ∉ S ∧ c' < cnt
def nxI (P : Program) (kt e : TypeId) (kv : α → Value) (ok : α → Prop) (ev : β → Value) (ed : β → DataW Unit) (b r k cnt : Nat) (m : α → Option β) (S : List α) (last : Option (α × β)) : Option (α × β × Nat) → It
 | none => rngK P kt e kv ok ev ed b r k cnt m S last
 | some (x, v, c') => rngK P kt e kv ok ev ed b r k c' m (x :: S) (some (x, v))
theorem ow_next {d b r m' cnt : Nat} {f : α → Option β} {S : List α} {last : Option (α × β)} {G : Option (α × β × Nat) → List It} (K : KeyL P kt kv ok) (KI : ∀ key kl, keyOf P kt key = some kl → ∃ x, key = kv x ∧ ok x) (E : ElL P e ev ed z okE) (ho : o.op = .next x false) (hd : o.dst = some d) (hn : Nat.ble n d = false) (hx : evl l x = some (.pointer (some ⟨r, 0, none⟩)))
  (hat : ∀ u, At (rngK P kt e kv ok ev ed b r m' cnt f S last) (nxI P kt e kv ok ev ed b r m' cnt f S last u) H (G u)) :
  OpW P n B (some (rngK P kt e kv ok ev ed b r m' cnt f S last)) l H o (T := Option (α × β × Nat)) (nxP ok f S cnt) (fun u => (d, nxV kv ev u) :: l) G :=
 OpW.of_run (T := Option (α × β × Nat)) hd hn (V := nxV kv ev) (fun a w ha hw => by
  have hI := hw.ok _ (hat none).mem
  obtain ⟨n0, D, left, h0, h1, h2, h3⟩ := hI.1
  rcases h1.next K.law o.type with ⟨hc0, hl, hrun⟩ | ⟨key, v, kl, yy, w', cnt', hkey, hlk, hv, hat', hrun, hrg, hlt, hgr, hsz, hen⟩
  ·refine ⟨none, w, fun x hx' hs => ?_, by unfold execOp; rw [ho]; simp only [ha.ev hx, Sem.run_bind, hrun, Result.andThen_ok, Sem.run_pure]; rfl, ?_, ⟨rfl, rfl, rfl, Nat.le_refl _, fun _ _ _ => rfl⟩⟩
   ·obtain ⟨kl, hk⟩ := K.key x hx'
    have := (h2 x kl hx' hk).2.2
    rw [hl, hs] at this
    simpa using this
   ·exact hw.turn (hat none) (fun h => h) hI.1 (fun _ h => h)
  ·obtain ⟨x0, rfl, hx0⟩ := KI key kl hkey
   obtain ⟨g1, g2, g3⟩ := h2 x0 kl hx0 hkey
   rw [hlk] at g3
   have g4 := (Bool.and_eq_true_iff.1 g3.symm)
   obtain ⟨v0, hv0⟩ := Option.isSome_iff_exists.1 g4.1
   have hyy : yy.1 = ed v0 := by
    have e1 := hat' (.lit (.bool true))
    rw [g2, hv0] at e1
    exact e1.symm
   have hvv : v = ev v0 := E.inv v v0 yy.2 (by rw [hv, ← hyy])
   subst hvv
   have hcg : Chg (rngK P kt e kv ok ev ed b r m' cnt f S last) w w' := ⟨hgr.os, hgr.tape, hgr.output, hgr.size, fun i hi hni => hgr.block i hi (fun e' => hni (.inr (by injection e')))⟩
   refine ⟨some (x0, v0, cnt'), w', ⟨hx0, hv0, of_decide_eq_true g4.2, hlt⟩, by unfold execOp; rw [ho]; simp only [ha.ev hx, Sem.run_bind, hrun, Result.andThen_ok, Sem.run_pure]; rfl, hw.chg (hat (some (x0, v0, cnt'))) rfl rfl hcg ⟨n0, D, _, h0, hrg, fun x kl' hx' hk => ?_, fun x v h => ?_⟩ (fun i hi => ⟨.inl hi, by rw [hsz]; exact (hI.2 i hi).2⟩), hcg⟩
   ·obtain ⟨q1, q2, q3⟩ := h2 x kl' hx' hk
    refine ⟨q1, q2, ?_⟩
    have hiff : kl'.sameKey kl = decide (x = x0) := by
     rw [Bool.eq_iff_iff, decide_eq_true_eq, WideAt.sameKey_iff (K.law.key hkey)]
     constructor
     ·rintro rfl; exact K.inj _ _ (K.law.inj hk hkey)
     ·rintro rfl; rw [hk] at hkey; injection hkey
    show (left kl' && !kl'.sameKey kl) = _
    rw [q3, hiff]
    by_cases e1 : x = x0 <;> by_cases e2 : x ∈ S <;> simp [e1, e2]
   ·injection h with h; injection h with h1 h2; subst h1 h2; exact hen)
theorem rv_entry {b r m' cnt : Nat} {f : α → Option β} {S : List α} {k : α} {v : β} (ho : o.op = .entry x) (hx : evl l x = some (.pointer (some ⟨r, 0, none⟩))) (hm : rngK P kt e kv ok ev ed b r m' cnt f S (some (k, v)) ∈ H) : RV P n B l H o (.tuple #[kv k, ev v]) := fun a w ha hw => by
 obtain ⟨n0, D, left, h0, h1, h2, h3⟩ := (hw.ok _ hm).1
 unfold execOp; rw [ho]; simp only [ha.ev hx, Sem.run_bind, h3 k v rfl, Result.andThen_ok, Sem.run_pure]
/-- The range is over: the map again. -/
theorem J_rngEnd {c : Code} {b r m' cnt : Nat} {f : α → Option β} {S : List α} {last : Option (α × β)} (hat : At (rngK P kt e kv ok ev ed b r m' cnt f S last) (mapK P kt e kv ok ed b m' f) H H') (h : J P n B c Q l H') : J P n B c Q l H := fun a w h1 h2 => h a w h1 (h2.turn hat (fun h => h) (by
 obtain ⟨n0, D, left, q0, q1, q2, -⟩ := (h2.ok _ hat.mem).1
 exact ⟨n0, Maps.size D, q0, D, q1.owns, rfl, fun x kl hx hk => ⟨(q2 x kl hx hk).1, (q2 x kl hx hk).2.1⟩⟩) (fun _ h => .inl h))
end
end Go.Proofs.YtmcpnoailbmkkaaGreat
/- A range over a function whose iterator reads what the rounds write. Over any program. -/
namespace Go.Proofs.YtmcpnoailbmkkaaGreat
open Go Go.RowKit Go.Proofs Go.Shelf
attribute [local go_sem] Oper.semAt_some

def mark (D : Nat) : Deferred := { target := .collected D, args := #[] }
/-- The blocks of the loops that are done. -/
def defsB (Ds : List Nat) : It where
 foot b := b ∈ Ds
 holds w := Ds.Nodup ∧ ∀ D ∈ Ds, w.heap[D]? = some (.deferred (some []))
 st _ _ h h1 := ⟨h1.1, fun D hD => (h D hD).trans (h1.2 D hD)⟩
/-- The record of a loop that runs. -/
def loopB (lp : Nat) (L : Loop) (Ds : List Nat) : It where
 foot b := b = lp ∨ b ∈ Ds
 holds w := lp ∉ Ds ∧ Ds.Nodup ∧ w.heap[lp]? = some (.loop L) ∧ ∀ D ∈ Ds, w.heap[D]? = some (.deferred (some []))
 st _ _ h h1 := ⟨h1.1, h1.2.1, (h lp (.inl rfl)).trans h1.2.2.1, fun D hD => (h D (.inr hD)).trans (h1.2.2.2 D hD)⟩
section
variable {P : Program} {n : Nat} {B : Bs} {Q : Exit → Act → World → Prop} {l : Sl} {H H' : List It} {c : Code} {w w' : World}
theorem Wd.re (h : Wd B H w) (r : Option Nat) (d : List Deferred) : Wd ⟨B.w, B.m, r, d⟩ H w := ⟨h.os, h.tape, h.output, h.size, h.block, h.ok, h.sep⟩
theorem Wd.un {w0 : World} {m : Nat → Prop} {r r' : Option Nat} {d d' : List Deferred} (h : Wd ⟨w0, m, r, d⟩ H w) : Wd ⟨w0, m, r', d'⟩ H w := ⟨h.os, h.tape, h.output, h.size, h.block, h.ok, h.sep⟩
theorem J_defs (h : J P n B c Q l (defsB [] :: H)) : J P n B c Q l H := fun a w ha hw => h a w ha (hw.new (Below.refl _ _) ⟨List.nodup_nil, fun _ h => (by cases h)⟩ (fun _ h => (by cases h)))
theorem Chg.putObj {A : It} {b : Nat} {o' : Obj} (hA : A.foot b) : Chg A w (w.putObj b o') :=
 ⟨(grownBy_putObj' w b o').os, (grownBy_putObj' w b o').tape, (grownBy_putObj' w b o').output, (grownBy_putObj' w b o').size, fun _ _ hf => World.putObj_heap_other (fun e => hf (e ▸ hA))⟩
theorem Wd.loop {lp : Nat} {L L' : Loop} {Ds : List Nat} (h : Wd B H w) (hat : At (loopB lp L Ds) (loopB lp L' Ds) H H') : Wd B H' (w.putObj lp (.loop L')) := by
 have hh := (h.ok _ hat.mem).1
 have hlt : lp < w.heap.size := (Array.getElem?_eq_some_iff.1 hh.2.2.1).1
 have hc : Chg (loopB lp L Ds) w (w.putObj lp (.loop L')) := Chg.putObj (.inl rfl)
 refine h.chg hat rfl rfl hc ⟨hh.1, hh.2.1, World.putObj_heap_same hlt, fun D hD => (World.putObj_heap_other (fun (e : D = lp) => hh.1 (by rw [← e]; exact hD))).trans (hh.2.2.2 D hD)⟩ (fun b hb => ⟨.inl hb, ?_⟩)
 have := ((h.ok _ hat.mem).2 b hb).2
 exact Nat.lt_of_lt_of_le this hc.size
/-- The contract of an iterator f with what it has captured: T the states, Y what it hands out. -/
def Itr (P : Program) {T Y : Type} (f : FuncId) (caps : Array Value) (B : Bs) (φ : T → Prop) (HH : T → It → List It) (Yk : T → Y → Prop) (V : Y → Value) (HG : T → Y → It → List It) (Rn : T → T → Prop) (fin : T → Prop) : Prop :=
 ∀ (lp : Nat) (X : It) (t0 : T) (W : World), φ t0 → Wd B (HH t0 X) W →
  (∀ t y W1, φ t → Yk t y → Wd B (HG t y X) W1 → ∀ m, YieldAt Fence.wide m P lp #[V y] W1 (fun e W2 => e = .returned (.bool true) ∧ ∃ t', Rn t t' ∧ φ t' ∧ Wd B (HH t' X) W2)) →
  Calls P f (#[.func (.yield lp) #[] #[]] ++ caps) W (fun e W' => (∃ v, e = .returned v) ∧ ∃ t, φ t ∧ fin t ∧ Wd B (HH t X) W')
/-! ### A function with such loops -/
theorem J_startM {f : FuncId} {fn : Func} {args : Array Value} {w : World} {R : Ending → World → Prop} (hr : B.r = none) (hd : B.d = []) {vs : List Value} {k : Nat} (hf : P.funcs[f]? = some fn) (hb : fn.body = some c) (ha : args = vs.toArray) (hn : fn.ntmps = n) (hk : vs.length + k = n) (hl : en 0 vs = l)
  (hH : Wd B H w) (h : J P n B c (bodyPostM Fence.wide 0 P fn R) l H) : Calls P f args w R := by
 subst ha hl
 refine (callsIn_wide (n := 0)).1 (callsIn_of_wp_marks hf hb trivial ?_ rfl)
 have e : fn.ntmps - vs.toArray.size = k := by simp; omega
 rw [e]
 have h1 := h { tmps := vs.toArray ++ Array.replicate k undef, defers := [] } w (by rw [← hk]; exact Fr.start vs k) hH
 unfold Wp at h1
 rw [hr] at h1
 have e2 : B.df { tmps := vs.toArray ++ Array.replicate k undef, defers := [] } = { tmps := vs.toArray ++ Array.replicate k undef, defers := [] } := by unfold Bs.df; rw [hd]
 rw [e2] at h1
 exact wpIn_mono (h1 0) (NO.imp (fun _ _ _ _ h => h))
theorem Wd.take {D : Nat} {Ds : List Nat} (h : Wd B H w) (hat : At (defsB (D :: Ds)) (defsB Ds) H H') : (Instr.takeDeferred D).run P w = .ok [] (w.putObj D (.deferred none)) ∧ Wd B H' (w.putObj D (.deferred none)) := by
 have hh := h.ok _ hat.mem
 have hD := hh.1.2 D (by simp)
 have hn := List.nodup_cons.1 hh.1.1
 refine ⟨run_takeDeferred hD, h.chg hat rfl rfl (Chg.putObj (by simp [defsB])) ⟨hn.2, fun C hC => (World.putObj_heap_other (fun (e : C = D) => hn.1 (by rw [← e]; exact hC))).trans (hh.1.2 C (by simp [hC]))⟩ (fun b hb => ⟨.inl (by simp only [defsB] at hb ⊢; simp [hb]), ?_⟩)⟩
 have := (hh.2 b (by simp only [defsB] at hb ⊢; simp [hb])).2
 exact Nat.lt_of_lt_of_le this (grownBy_putObj' w D _).size
theorem JR_marks {fn : Func} {R : Ending → World → Prop} {r : ResultVar} {v : Value} {k : Nat} (HX : It → List It) {Ds : List Nat} (hr : fn.results = #[r]) (h1 : ∀ A, RR P n B l (HX A) r v) (hR : ∀ w, Wd B (HX (defsB [])) w → R (.returned v) w) (hd : B.d = Ds.map mark := by rfl) (hH : Pk (HX (defsB Ds)) H := by repeat constructor) (hat : ∀ A C, At A C (HX A) (HX C) := by intro A C; repeat constructor) :
  JQ n B (bodyPostM Fence.wide k P fn R) .ret l H := by
 intro a w ha hw
 show LeavesInM Fence.wide k P fn a.tmps R B.d .returning w
 rw [hd]
 have hw' := hw.pick hH
 clear hw hH hd
 induction Ds generalizing w with
 | nil =>
  refine ⟨v, ?_, hR w hw'⟩
  have h1 := h1 _ a w ha hw'
  rw [results_rvS, hr]
  simp [h1]
 | cons D Ds ih =>
  obtain ⟨h2, h3⟩ := Wd.take (P := P) hw' (hat _ _)
  exact ⟨by simp, .inl ⟨D, _, rfl, h2, ih _ h3⟩⟩
/-! ### A call of yield -/
def JLi (P : Program) (n : Nat) (B : Bs) (ops : Array Oper) (Q : Exit → Act → World → Prop) (rest : List Oper) (l : Sl) (H : List It) : Prop := ∀ a w, Fr n l a → Wd B H w → ∀ m, wpListIn Fence.wide m P ops (NO Q) rest (B.df a) w
variable {ops : Array Oper} {rest : List Oper} {o : Oper}
theorem J_regI {id : Nat} {ls : List Oper} (h : JLi P n B ls.toArray Q ls l H) (hr : B.r = none := by rfl) : J P n B (.region id ls.toArray false) Q l H := fun a w ha hw m => by
 rw [hr]; exact wpIn_region_lit (h a w ha hw m)
theorem iN (h : JQ n B Q .normal l H) : JLi P n B ops Q [] l H := fun a w ha hw _ => h a w ha hw
theorem iV {d : Nat} {v : Value} (hv : RV P n B l H o v) (k : JLi P n B ops Q rest ((d, v) :: l) H) (hnd : isDef o.op = false := by rfl) (hd : o.dst = some d := by rfl) (hW : WN ops n l o true := by exact wAny) (hn : Nat.ble n d = false := by rfl) : JLi P n B ops Q (o :: rest) l H := fun a w ha hw m =>
 wpListIn_step (fun K hK => by
  rw [if_pos (hW.D ha)]
  unfold Oper.wpIn
  refine ⟨fun _ _ => trivial, ?_⟩
  rw [Oper.semAt_plain _ _ _ (fun c hc => by rw [hc] at hnd; cases hnd), show (execOp (B.df a).eval o).run P w = _ from hv a w ha hw]
  show K ((B.df a).put o.dst v) w
  rw [hd]
  exact hK _ _ (by rw [Bs.df_put]; exact k _ _ (ha.put d v hn) hw m))
theorem iKF {d : Nat} {p : Prop} [Decidable p] (hp : ¬ p) (k : JLi P n B ops Q rest ((d, .bool false) :: l) H) : JLi P n B ops Q rest ((d, .bool (decide p)) :: l) H := fun a w ha hw m => k a w (Fr.known (decide_eq_false hp) ha) hw m
theorem iY {T : Type} {φ : T → Prop} {HH : T → List It} {ts : Array TypeId} {x y : Operand} {lp d : Nat} {v : Value} (hY : ∀ W, Wd B H W → ∀ m, YieldAt Fence.wide m P lp #[v] W (fun e W2 => e = .returned (.bool true) ∧ ∃ t', φ t' ∧ Wd B (HH t') W2))
  (k : ∀ t', φ t' → JLi P n B ops Q rest ((d, .bool true) :: l) (HH t')) (ho : o.op = .call { callee := .value x, args := #[y], argTypes := ts } := by rfl) (hx : evl l x = some (.func (.yield lp) #[] #[]) := by rfl) (hy : evl l y = some v := by rfl) (hd : o.dst = some d := by rfl) (hW : WN ops n l o true := by exact wAny) (hn : Nat.ble n d = false := by rfl) :
  JLi P n B ops Q (o :: rest) l H := fun a w ha hw m =>
 wpListIn_step (fun K hK => by
  rw [if_pos (hW.D ha)]
  obtain ⟨fn, tmps, assign, body, h1, h2⟩ := hY w hw (m - 1)
  have he : (execOp (B.df a).eval o).run P w = .ok (.round lp fn tmps assign body) w := by
   unfold execOp; rw [ho]
   simp only [resolve, ha.evD hx, List.map_toArray, List.map_cons, List.map_nil]
   simp [Deferred.ofValue, invoke, ha.evD hy, h1]
  unfold Oper.wpIn
  refine ⟨fun _ _ => trivial, ?_⟩
  rw [Oper.semAt_plain _ _ _ (fun c hc => by rw [ho] at hc; cases hc), he, Oper.uponIn_round]
  refine ⟨fun h => (by cases h), h2.mono ?_⟩
  rintro e W2 ⟨rfl, t', h3, h4⟩
  show K ((B.df a).put o.dst (.bool true)) W2
  rw [hd]
  exact hK _ _ (by rw [Bs.df_put]; exact k t' h3 _ _ (ha.put d _ hn) h4 m))
end
end Go.Proofs.YtmcpnoailbmkkaaGreat
/- Calls that are put off; recover. Over any program. -/
namespace Go.Proofs.YtmcpnoailbmkkaaGreat
open Go Go.RowKit Go.Proofs Go.Shelf
attribute [local go_sem] Oper.semAt_some
section
variable {P : Program} {n : Nat} {B : Bs} {Q : Exit → Act → World → Prop} {l : Sl} {H H' : List It} {c : Code} {w w' : World} {ops : Array Oper} {rest : List Oper} {o : Oper} {a : Act}
theorem J.wp (h : J P n B c Q l H) (ha : Fr n l a) (hw : Wd B H w) (hr : B.r = none := by rfl) : c.wp P Q (B.df a) w := by
 have h1 := h a w ha hw
 unfold Wp at h1
 rw [hr] at h1
 exact wp_mono (wpIn_wide.1 (h1 0)) (NO.imp (fun _ _ _ _ h => h))
/-- Two items as one. -/
def unI (A C : It) : It where
 foot b := A.foot b ∨ C.foot b
 holds w := A.holds w ∧ C.holds w ∧ ∀ b, A.foot b → C.foot b → False
 st w w' h h1 := ⟨A.st w w' (fun b hb => h b (.inl hb)) h1.1, C.st w w' (fun b hb => h b (.inr hb)) h1.2.1, h1.2.2⟩
theorem Wd.split {A C : It} (h : Wd B (unI A C :: H) w) : Wd B (A :: C :: H) w := by
 have hs := List.pairwise_cons.1 h.sep
 have o := h.ok (unI A C) (by simp)
 have hf : ∀ b, A.foot b ∨ C.foot b → (False ∨ B.m b ∨ B.w.heap.size ≤ b) ∧ b < w.heap.size := fun b hb => by
  have := o.2 b hb
  exact ⟨this.1.imp_left (fun h => by cases h), this.2⟩
 have hd : ∀ D ∈ H, ∀ b, A.foot b ∨ C.foot b → D.foot b → False := fun D hD => sepR.out (hs.1 D hD) rfl
 refine ⟨h.os, h.tape, h.output, h.size, h.block, fun D hD => ?_, List.pairwise_cons.2 ⟨fun D hD => .inr (fun b h1 h2 => ?_), List.pairwise_cons.2 ⟨fun D hD => .inr (fun b h1 h2 => hd D hD b (.inr h1) h2), hs.2⟩⟩⟩
 ·rcases List.mem_cons.1 hD with rfl | hD
  ·exact ⟨o.1.1, fun b hb => ⟨(hf b (.inl hb)).1.imp_left (fun h => h.elim), (hf b (.inl hb)).2⟩⟩
  ·rcases List.mem_cons.1 hD with rfl | hD
   ·exact ⟨o.1.2.1, fun b hb => ⟨(hf b (.inr hb)).1.imp_left (fun h => h.elim), (hf b (.inr hb)).2⟩⟩
   ·exact h.ok D (by simp [hD])
 ·rcases List.mem_cons.1 hD with rfl | hD
  ·exact o.1.2.2 b h1 h2
  ·exact hd D hD b (.inl h1) h2
end
end Go.Proofs.YtmcpnoailbmkkaaGreat
/- The walk by live slots: appends of whole slices of rows that the function owns. Over any program. -/
namespace Go.Proofs.YtmcpnoailbmkkaaGreat
open Go Go.RowKit Go.Proofs
section
variable {P : Program} {n : Nat} {B : Bs} {Q : Exit → Act → World → Prop} {ops : Array Oper} {rest : List Oper} {l : Sl} {H : List It} {o : Oper}
theorem Arr.drop {α : Type} {k : Nat} {enc : α → List Value} {A : Option Addr} {n c m : Nat} {w : World} {l : List α} (h : Arr k enc w (.slice A n c) l) (hm : m ≤ l.length) : Arr k enc w (.slice (if c = m then A else A.map (·.add (m * k))) (n - m) (c - m)) (l.drop m) := by
 obtain ⟨A', cap, e, h2, h3, h4⟩ := h
 injection e with e1 e2 e3
 subst e1 e2 e3
 refine ⟨_, c - m, by rw [List.length_drop], by rw [List.length_drop]; omega, ⟨by rw [List.length_drop]; omega, by omega⟩, fun hn => ?_⟩
 have hl : m < l.length := by
  rcases Nat.lt_or_ge m l.length with h | h
  ·exact h
  ·exact absurd (List.drop_eq_nil_of_le h) hn
 obtain ⟨b, o, rfl, hh⟩ := h4 (by intro e; subst e; simp at hl)
 refine ⟨b, o + m * k, by rw [if_neg (by omega)]; show some (Addr.add _ _) = _; rw [Addr.add_mid], fun j hj i hi => ?_⟩
 rw [List.length_drop] at hj
 have := hh (m + j) (by omega) i hi
 rw [List.getElem_drop, ← this, Nat.add_mul, ← Nat.add_assoc]
theorem own_arr {α : Type} {k : Nat} {enc : α → List Value} (E : Enc k enc) {w : World} {ty c : Nat} {A : Option Addr} {L : List α} (hw : Wd B H w) (hm : ownB ty k A L.length c (L.flatMap enc) ∈ H) (hl : L.length ≤ 9223372036854775807) : Arr k enc w (.slice A L.length c) L := Arr.of_own E (hw.ok _ hm).1 hl
end
section
variable {P : Program} {n : Nat} {B : Bs} {Q : Exit → Act → World → Prop} {ops : Array Oper} {l : Sl} {H : List It} {ld lx : List Nat} {H0 Hx : List It} {fuel : Nat} {listed : Array Bool} {ord : List Nat}
end
section
variable {P : Program} {n : Nat} {B : Bs} {Q : Exit → Act → World → Prop} {l : Sl} {H : List It} {c : Code}
end
end Go.Proofs.YtmcpnoailbmkkaaGreat
/- Layers 2 and 7, in plain Lean: stones, positions, codes, throws. (Carried over from the texts of wip/rules by wip/tools/plain.py.) -/
namespace Go.Proofs.YtmcpnoailbmkkaaGreat
open Go Go.RowKit Go.Proofs
def ab (x : Int) : Int := if x < 0 then -x else x
theorem ab_nn (x : Int) : 0 ≤ ab x := by unfold ab; split <;> omega
theorem ab_sq (x : Int) : ab x * ab x = x * x := by
  unfold ab; split
  · rw [Int.neg_mul_neg]
  · rfl
theorem sq_bound {x B : Int} (h : ab x ≤ B) : 0 ≤ x * x ∧ x * x ≤ B * B := by
  rw [← ab_sq]
  have h0 := ab_nn x
  exact ⟨Int.mul_nonneg h0 h0, Int.mul_le_mul h h h0 (by omega)⟩
/-- A place is valid; a stone there is in play. -/
def OkS (x y : Int) : Prop := (-6553600000 ≤ x ∧ x ≤ 6553600000) ∧ -6553600000 ≤ y ∧ y ≤ 6553600000
def Play (x y : Int) : Prop := ab x + 9502720 < 155648000 ∧ -419495936 < y - 9502720 ∧ y - 9502720 ≤ 119865344
instance (x y : Int) : Decidable (OkS x y) := by unfold OkS; infer_instance
instance (x y : Int) : Decidable (Play x y) := by unfold Play; infer_instance
def sqd (x y : Int) : Int := x * x + y * y
def zoneZ (x y : Int) : Int := if Play x y then (if sqd x y ≤ 16736095983108096 then 2 else if y + 9502720 < 0 then 1 else 3) else 0
def InH (x y : Int) : Prop := Play x y ∧ sqd x y ≤ 16736095983108096
instance (x y : Int) : Decidable (InH x y) := by unfold InH; infer_instance
theorem zone_house (x y : Int) : zoneZ x y = 2 ↔ InH x y := by
  unfold zoneZ InH
  constructor
  · intro h; split at h
    · rename_i h1; split at h
      · exact ⟨h1, by assumption⟩
      · split at h <;> omega
    · omega
  · rintro ⟨h1, h2⟩; rw [if_pos h1, if_pos h2]
theorem zone_away (x y : Int) : zoneZ x y = 0 ↔ ¬ Play x y := by
  unfold zoneZ
  constructor
  · intro h h1; rw [if_pos h1] at h; split at h
    · omega
    · split at h <;> omega
  · intro h; rw [if_neg h]
theorem play_bound {x y : Int} (h : Play x y) : ab x ≤ 146145280 ∧ ab y ≤ 409993216 := by
  unfold Play ab at *; split at h <;> split <;> omega
/-- How stones that lie dx, dy apart touch: -1 they overlap, 0 they touch, 1 neither. -/
def touZ (dx dy : Int) : Int := if 19005440 < ab dx ∨ 19005440 < ab dy then 1 else if sqd dx dy < 361206749593600 then -1 else if 361206749593600 < sqd dx dy then 1 else 0
/-- A stone. -/
structure St where
  t : Int
  n : Int
  x : Int
  y : Int
def ovB (a b : St) : Bool := decide (OkS a.x a.y ∧ OkS b.x b.y ∧ touZ (a.x - b.x) (a.y - b.y) = -1)
/-- The first place at which p holds, or -1. -/
def fidx {α : Type} (p : α → Bool) (l : List α) : Int := if l.findIdx p < l.length then (l.findIdx p : Int) else -1
theorem fidx_at {α : Type} {p : α → Bool} {l : List α} {k : Nat} (h : k < l.length) (h1 : p (l[k]'h) = true) (h2 : ∀ j (hj : j < k), p (l[j]'(by omega)) = false) : fidx p l = k := by
  have e : l.findIdx p = k := (List.findIdx_eq h).2 ⟨h1, h2⟩
  unfold fidx; rw [e, if_pos h]
theorem fidx_none {α : Type} {p : α → Bool} {l : List α} (h : ∀ j (hj : j < l.length), p (l[j]'hj) = false) : fidx p l = -1 := by
  have : l.findIdx p = l.length := by
    rw [List.findIdx_eq_length]
    intro x hx
    obtain ⟨j, hj, rfl⟩ := List.getElem_of_mem hx
    exact h j hj
  unfold fidx; rw [this, if_neg (by omega)]
/-- The first pair, from place i on. -/
def pairF {α : Type} (h : α → α → Bool) : List α → Nat → Int × Int
  | [], _ => (-1, -1)
  | a :: l, i => if 0 ≤ fidx (h a) l then ((i : Int), (i : Int) + 1 + fidx (h a) l) else pairF h l (i + 1)
theorem pairF_step {α : Type} {h : α → α → Bool} {l : List α} {k : Nat} (hk : k < l.length) :
    pairF h (l.drop k) k = if 0 ≤ fidx (h (l[k]'hk)) (l.drop (k + 1)) then ((k : Int), (k : Int) + 1 + fidx (h (l[k]'hk)) (l.drop (k + 1))) else pairF h (l.drop (k + 1)) (k + 1) := by
  rw [List.drop_eq_getElem_cons hk]; rfl
def nameB (a b : St) : Bool := a.t == b.t && a.n == b.n
def okSt (s : St) : Prop := ((0 ≤ s.t ∧ s.t ≤ 1) ∧ 0 ≤ s.n ∧ s.n ≤ 7) ∧ OkS s.x s.y ∧ Play s.x s.y
instance (s : St) : Decidable (okSt s) := by unfold okSt; infer_instance
/-- Stones are valid, with names that no earlier one has. -/
def goodF : List St → List St → Bool
  | _, [] => true
  | pre, s :: r => decide (okSt s) && pre.all (fun a => !nameB a s) && goodF (pre ++ [s]) r
def chkB (l : List St) : Bool := decide (l.length ≤ 16) && goodF [] l && decide ((pairF ovB l 0).1 < 0)
theorem goodF_step {l : List St} {k : Nat} (hk : k < l.length) :
    goodF (l.take k) (l.drop k) = (decide (okSt (l[k]'hk)) && (l.take k).all (fun a => !nameB a (l[k]'hk)) && goodF (l.take (k + 1)) (l.drop (k + 1))) := by
  rw [List.drop_eq_getElem_cons hk, List.take_succ_eq_append_getElem hk]; rfl
/-- The names of stones, the last one first. -/
def namesR (l : List St) : List (Int × Int) := (l.map fun s => (s.t, s.n)).reverse
theorem namesR_snoc (l : List St) (s : St) : namesR (l ++ [s]) = (s.t, s.n) :: namesR l := by simp [namesR]
theorem namesR_len (l : List St) : (namesR l).length = l.length := by simp [namesR]
theorem names_all (l : List St) (s : St) : l.all (fun a => !nameB a s) = !decide ((s.t, s.n) ∈ namesR l) := by
  rw [Bool.eq_iff_iff]
  simp only [List.all_eq_true, Bool.not_eq_true', decide_eq_false_iff_not, namesR, List.mem_reverse, List.mem_map, not_exists, not_and]
  constructor
  · intro h a ha e
    have := h a ha
    injection e with e1 e2
    simp [nameB, e1, e2] at this
  · intro h a ha
    have := h a ha
    cases hn : nameB a s
    · rfl
    · exfalso
      simp only [nameB, Bool.and_eq_true, beq_iff_eq] at hn
      exact this (by rw [hn.1, hn.2])
theorem good_all {l : List St} : ∀ {k : Nat}, k ≤ l.length → goodF (l.take k) (l.drop k) = true → ∀ j (h : j < l.length), k ≤ j → okSt (l[j]'h) := by
  intro k hk
  induction hn : l.length - k generalizing k with
  | zero => intro _ j h1 h2; omega
  | succ n ih =>
    intro hg j h1 h2
    rw [goodF_step (by omega), Bool.and_eq_true, Bool.and_eq_true] at hg
    by_cases e : j = k
    · subst e; exact of_decide_eq_true hg.1.1
    · exact ih (k := k + 1) (by omega) (by omega) hg.2 j h1 (by omega)
theorem chk_facts {l : List St} (h : chkB l = true) : l.length ≤ 16 ∧ ∀ j (h : j < l.length), okSt (l[j]'h) := by
  unfold chkB at h
  rw [Bool.and_eq_true, Bool.and_eq_true] at h
  exact ⟨of_decide_eq_true h.1.1, fun j hj => good_all (k := 0) (Nat.zero_le _) (by simpa using h.1.2) j hj (Nat.zero_le _)⟩
/-- A code. -/
structure Cd where
  f : Int
  t : Int
  s : Int
  e : Int
  p : Bool
def zn (x y : Int) : Int := if OkS x y then zoneZ x y else 0
/-- A throw, but where the stones came to rest. -/
structure Th where
  team : Int
  n : Int
  late : Bool
  short : Bool
  how : Int
end Go.Proofs.YtmcpnoailbmkkaaGreat
/- Layer 2: places. (By names: any seat.) -/
namespace Go.Proofs.YtmcpnoailbmkkaaGreat
open Go Go.RowKit Go.Proofs
attribute [local irreducible] J JQ JL JA JD

theorem pNeg {P : Program} {n : Nat} {l : Sl} {o : Oper} {t : TypeId} {x : Operand} {a : Int} (ho : o.op = .unOp .neg t x) (hx : evl l x = some (.int .i64 a)) (ha : -9223372036854775807 ≤ a ∧ a ≤ 9223372036854775807) : RP P n l o (.int .i64 (-a)) := rp1 hx (fun ρ h1 w => by
 have h2 : IntKind.i64.wrap (-a) = -a := wrap64 (by omega)
 unfold execOp
 simp only [ho, h1]
 go_simp)
abbrev Sp (x y : Int) : Value := .agg #[.int .i64 x, .int .i64 y]
theorem sqd_ok {x y : Int} (h : ab x ≤ 146145280 ∧ ab y ≤ 409993216) : (0 ≤ x * x ∧ x * x ≤ 21358442866278400) ∧ 0 ≤ y * y ∧ y * y ≤ 168094437166022656 :=
 ⟨sq_bound h.1, sq_bound h.2⟩
theorem ab_le {x B : Int} : ab x ≤ B ↔ -B ≤ x ∧ x ≤ B := by unfold ab; split <;> omega
theorem ab_max (x : Int) : max x (-x) = ab x := by unfold ab; split <;> omega
set_option maxRecDepth 100000 in
set_option maxHeartbeats 4000000 in
theorem swithin (n a b : Int) (w : World) : Calls Tryz.prog 21 #[.int .i64 n, .int .i64 a, .int .i64 b] w (Back (.bool (decide (a ≤ n ∧ n ≤ b))) w) := by
 refine J_enter (fun _ => False) (vs := [.int .i64 n, .int .i64 a, .int .i64 b]) (k := 12) (l := [(0, .int .i64 n), (1, .int .i64 a), (2, .int .i64 b)]) Tryz.func21 rfl rfl Tryz.ntmps21 rfl rfl (Wd.start _) ?_
 refine s10 ?_
 refine JL_dec (fun h9 => ?_) (fun h9 => ?_)
 ·refine s4 ?_
  refine JL_dec (fun h13 => ?_) (fun h13 => ?_)
  ·refine s5 ?_
   refine JR_one rfl (rr_tmp rfl) ?_
   intro w' hw
   exact ⟨by congr 2; exact (by first | exact (decide_eq_true (by omega)).symm | exact (decide_eq_false (by omega)).symm), hw.bel⟩
  ·refine s5 ?_
   refine JR_one rfl (rr_tmp rfl) ?_
   intro w' hw
   exact ⟨by congr 2; exact (by first | exact (decide_eq_true (by omega)).symm | exact (decide_eq_false (by omega)).symm), hw.bel⟩
 ·refine s9 ?_
  refine JR_one rfl (rr_tmp rfl) ?_
  intro w' hw
  exact ⟨by congr 2; exact (by first | exact (decide_eq_true (by omega)).symm | exact (decide_eq_false (by omega)).symm), hw.bel⟩
set_option maxRecDepth 100000 in
set_option maxHeartbeats 4000000 in
theorem swithinF (n a b : Int) (w : World) : Calls Tryz.prog 46 #[.int .i64 n, .int .i64 a, .int .i64 b] w (Back (.bool (decide (a ≤ n ∧ n ≤ b))) w) := by
 refine J_enter (fun _ => False) (vs := [.int .i64 n, .int .i64 a, .int .i64 b]) (k := 12) (l := [(0, .int .i64 n), (1, .int .i64 a), (2, .int .i64 b)]) Tryz.func46 rfl rfl Tryz.ntmps46 rfl rfl (Wd.start _) ?_
 refine s10 ?_
 refine JL_dec (fun h9 => ?_) (fun h9 => ?_)
 ·refine s4 ?_
  refine JL_dec (fun h13 => ?_) (fun h13 => ?_)
  ·refine s5 ?_
   refine JR_one rfl (rr_tmp rfl) ?_
   intro w' hw
   exact ⟨by congr 2; exact (by first | exact (decide_eq_true (by omega)).symm | exact (decide_eq_false (by omega)).symm), hw.bel⟩
  ·refine s5 ?_
   refine JR_one rfl (rr_tmp rfl) ?_
   intro w' hw
   exact ⟨by congr 2; exact (by first | exact (decide_eq_true (by omega)).symm | exact (decide_eq_false (by omega)).symm), hw.bel⟩
 ·refine s9 ?_
  refine JR_one rfl (rr_tmp rfl) ?_
  intro w' hw
  exact ⟨by congr 2; exact (by first | exact (decide_eq_true (by omega)).symm | exact (decide_eq_false (by omega)).symm), hw.bel⟩
set_option maxRecDepth 100000 in
set_option maxHeartbeats 4000000 in
theorem CheckSpot_any (x y : Int) (w : World) : Calls Tryz.prog 22 #[Sp x y] w (Back (.bool (decide (OkS x y))) w) := by
 refine J_enter (fun _ => False) (vs := [.agg #[.int .i64 x, .int .i64 y]]) (k := 10) (l := [(0, .agg #[.int .i64 x, .int .i64 y])]) Tryz.func22 rfl rfl Tryz.ntmps22 rfl rfl (Wd.start _) ?_
 refine s2 ?_
 refine aW (oX [_, _]) (fun b1 hb1 => ?_)
 refine s7 ?_
 refine aCB (fun w hw => swithinF _ _ _ w) ?_
 refine JL_dec (fun h5 => ?_) (fun h5 => ?_)
 ·refine s3 ?_
  refine aCB (fun w hw => swithinF _ _ _ w) ?_
  refine JL_dec (fun h9 => ?_) (fun h9 => ?_)
  ·refine s5 ?_
   refine JR_one rfl (rr_tmp rfl) ?_
   intro w' hw
   exact ⟨by congr 2; exact (by first | exact (decide_eq_true (by unfold OkS; omega)).symm | exact (decide_eq_false (by unfold OkS; omega)).symm), hw.bel⟩
  ·refine s5 ?_
   refine JR_one rfl (rr_tmp rfl) ?_
   intro w' hw
   exact ⟨by congr 2; exact (by first | exact (decide_eq_true (by unfold OkS; omega)).symm | exact (decide_eq_false (by unfold OkS; omega)).symm), hw.bel⟩
 ·refine s9 ?_
  refine JR_one rfl (rr_tmp rfl) ?_
  intro w' hw
  exact ⟨by congr 2; exact (by first | exact (decide_eq_true (by unfold OkS; omega)).symm | exact (decide_eq_false (by unfold OkS; omega)).symm), hw.bel⟩
set_option maxRecDepth 100000 in
set_option maxHeartbeats 4000000 in
theorem size_any (x : Int) (hx : -9223372036854775807 ≤ x ∧ x ≤ 9223372036854775807) (w : World) : Calls Tryz.prog 47 #[.int .i64 x] w (Back (.int .i64 (ab x)) w) := by
 refine J_enter (fun _ => False) (vs := [.int .i64 x]) (k := 6) (l := [(0, .int .i64 x)]) Tryz.func47 rfl rfl Tryz.ntmps47 rfl rfl (Wd.start _) ?_
 refine s9 ?_
 refine aP (pNeg rfl rfl hx) ?_
 refine s5 ?_
 refine JR_one rfl (rr_tmp rfl) ?_
 intro w' hw
 exact ⟨by rw [ab_max], hw.bel⟩
set_option maxRecDepth 100000 in
set_option maxHeartbeats 4000000 in
theorem square_any (x y : Int) (h : ab x ≤ 146145280 ∧ ab y ≤ 409993216) (w : World) : Calls Tryz.prog 20 #[Sp x y] w (Back (.int .i64 (sqd x y)) w) := by
 obtain ⟨⟨hx0, hx1⟩, hy0, hy1⟩ := sqd_ok h
 refine J_enter (fun _ => False) (vs := [.agg #[.int .i64 x, .int .i64 y]]) (k := 13) (l := [(0, .agg #[.int .i64 x, .int .i64 y])]) Tryz.func20 rfl rfl Tryz.ntmps20 rfl rfl (Wd.start _) ?_
 refine s2 ?_
 refine aW (oX [_, _]) (fun b1 hb1 => ?_)
 refine s9 ?_
 refine aP (pMul rfl rfl rfl) ?_
 refine s4 ?_
 refine aP (pMul rfl rfl rfl) ?_
 refine aP (pAdd rfl rfl rfl) ?_
 refine s4 ?_
 refine JR_one rfl (rr_tmp rfl) ?_
 intro w' hw
 exact ⟨rfl, hw.bel⟩
set_option maxRecDepth 100000 in
set_option maxHeartbeats 4000000 in
theorem zone_any (x y : Int) (hk : OkS x y) (w : World) : Calls Tryz.prog 23 #[Sp x y] w (Back (.int .i64 (zoneZ x y)) w) := by
 have hk0 := hk
 unfold OkS at hk0
 have hab := ab_nn x
 have hab2 : ab x ≤ 6553600000 := ab_le.2 (by omega)
 refine J_enter (fun _ => False) (vs := [.agg #[.int .i64 x, .int .i64 y]]) (k := 25) (l := [(0, .agg #[.int .i64 x, .int .i64 y])]) Tryz.func23 rfl rfl Tryz.ntmps23 rfl rfl (Wd.start _) ?_
 refine s2 ?_
 refine aW (oX [_, _]) (fun b1 hb1 => ?_)
 refine s10 ?_
 refine aCB (fun w hw => size_any x (by omega) w) ?_
 refine s2 ?_
 refine JL_dec (fun h8 => ?_) (fun h8 => ?_)
 ·refine s8 ?_
  refine kJ [] ?_
  refine s7 ?_
  refine JR_one rfl (rr_tmp rfl) ?_
  intro w' hw
  have e : zoneZ x y = 0 := by unfold zoneZ; rw [if_neg (by unfold Play; omega)]
  rw [e]; exact ⟨rfl, hw.bel⟩
 ·refine s5 ?_
  refine kJ [(1, _)] ?_
  refine s5 ?_
  refine JL_dec (fun h12 => ?_) (fun h12 => ?_)
  ·refine s8 ?_
   refine kJ [] ?_
   refine s7 ?_
   refine JR_one rfl (rr_tmp rfl) ?_
   intro w' hw
   have e : zoneZ x y = 0 := by unfold zoneZ; rw [if_neg (by unfold Play; omega)]
   rw [e]; exact ⟨rfl, hw.bel⟩
  ·refine s4 ?_
   refine kJ [(1, _)] ?_
   refine s5 ?_
   refine JL_dec (fun h16 => ?_) (fun h16 => ?_)
   ·refine s5 ?_
    refine kJ [] ?_
    refine s7 ?_
    refine JR_one rfl (rr_tmp rfl) ?_
    intro w' hw
    have e : zoneZ x y = 0 := by unfold zoneZ; rw [if_neg (by unfold Play; omega)]
    rw [e]; exact ⟨rfl, hw.bel⟩
   ·refine s5 ?_
    have hpl : Play x y := by unfold Play; omega
    refine kJ [(1, _)] ?_
    refine s2 ?_
    refine aCB (fun w hw => square_any x y (play_bound hpl) w) ?_
    refine s1 ?_
    refine JL_dec (fun h20 => ?_) (fun h20 => ?_)
    ·refine s5 ?_
     refine kJ [] ?_
     refine s7 ?_
     refine JR_one rfl (rr_tmp rfl) ?_
     intro w' hw
     have e : zoneZ x y = 2 := by unfold zoneZ; rw [if_pos hpl, if_pos h20]
     rw [e]; exact ⟨rfl, hw.bel⟩
    ·refine s5 ?_
     refine kJ [(1, _)] ?_
     refine s5 ?_
     refine JL_dec (fun h25 => ?_) (fun h25 => ?_)
     ·refine s5 ?_
      refine kJ [] ?_
      refine s7 ?_
      refine JR_one rfl (rr_tmp rfl) ?_
      intro w' hw
      have e : zoneZ x y = 1 := by unfold zoneZ; rw [if_pos hpl, if_neg h20, if_pos h25]
      rw [e]; exact ⟨rfl, hw.bel⟩
     ·refine s8 ?_
      refine kJ [] ?_
      refine s5 ?_
      refine JR_one rfl (rr_tmp rfl) ?_
      intro w' hw
      have e : zoneZ x y = 3 := by unfold zoneZ; rw [if_pos hpl, if_neg h20, if_neg h25]
      rw [e]; exact ⟨rfl, hw.bel⟩
end Go.Proofs.YtmcpnoailbmkkaaGreat
/- Layers 2, 7: zones, codes, what is protected. -/
namespace Go.Proofs.YtmcpnoailbmkkaaGreat
open Go Go.RowKit Go.Proofs
attribute [local irreducible] J JQ JL JA JD

def eT (s : St) : List Value := [.int .i64 s.t, .int .i64 s.n, .int .i64 s.x, .int .i64 s.y]
theorem ET : Enc 4 eT := ⟨fun _ => rfl, fun x v h => by simp [eT] at h; rcases h with rfl | rfl | rfl | rfl <;> rfl⟩
abbrev Stv (s : St) : Value := .agg #[.int .i64 s.t, .int .i64 s.n, .int .i64 s.x, .int .i64 s.y]
end Go.Proofs.YtmcpnoailbmkkaaGreat
/- Layers 2, 7: what is protected; contact; codes. -/
namespace Go.Proofs.YtmcpnoailbmkkaaGreat
open Go Go.RowKit Go.Proofs
attribute [local irreducible] J JQ JL JA JD

end Go.Proofs.YtmcpnoailbmkkaaGreat
/- Layers 2, 7: contact; codes. -/
namespace Go.Proofs.YtmcpnoailbmkkaaGreat
open Go Go.RowKit Go.Proofs
attribute [local irreducible] J JQ JL JA JD

set_option maxRecDepth 100000 in
set_option maxHeartbeats 4000000 in
theorem contact_any (x y u v : Int) (h1 : OkS x y) (h2 : OkS u v) (w : World) : Calls Tryz.prog 50 #[Sp x y, Sp u v] w (Back (.int .i64 (touZ (x - u) (y - v))) w) := by
 have h1k := h1
 have h2k := h2
 unfold OkS at h1k h2k
 obtain ⟨p, hp⟩ : ∃ p, x - u = p := ⟨_, rfl⟩
 obtain ⟨q, hq⟩ : ∃ q, y - v = q := ⟨_, rfl⟩
 have hap := ab_nn p
 have haq := ab_nn q
 rw [hp, hq]
 refine J_enter (fun _ => False) (vs := [.agg #[.int .i64 x, .int .i64 y], .agg #[.int .i64 u, .int .i64 v]]) (k := 35) (l := [(0, .agg #[.int .i64 x, .int .i64 y]), (1, .agg #[.int .i64 u, .int .i64 v])]) Tryz.func50 rfl rfl Tryz.ntmps50 rfl rfl (Wd.start _) ?_
 refine s2 ?_
 refine aW (oX [_, _]) (fun b2 hb2 => ?_)
 refine aW (oX [_, _]) (fun b3 hb3 => ?_)
 refine s4 ?_
 refine xD [0, 1, 2, 3, 4, 5, 6, 7, 8, 9, 10, 11] [1, 3, 6, 8] ?_
 refine s5 ?_
 rw [hp]
 refine s5 ?_
 rw [hq]
 refine s6 ?_
 refine kJ [(5, _), (6, _)] ?_
 refine s2 ?_
 refine aCB (fun w hw => size_any p (by omega) w) ?_
 refine s1 ?_
 refine aCB (fun w hw => size_any q (by omega) w) ?_
 refine s2 ?_
 refine JL_dec (fun h23 => ?_) (fun h23 => ?_)
 ·refine s4 ?_
  refine kJ [] ?_
  refine s6 ?_
  refine JR_one rfl (rr_tmp rfl) ?_
  intro w' hw
  have e : touZ p q = 1 := by unfold touZ sqd; rw [if_pos (by omega)]
  rw [e]; exact ⟨rfl, hw.bel⟩
 ·refine s7 ?_
  have hsp := sq_bound (x := p) (B := 19005440) (by omega)
  have hsq := sq_bound (x := q) (B := 19005440) (by omega)
  refine kJ [(5, _), (6, _)] ?_
  refine s3 ?_
  refine aP (pMul rfl rfl rfl) ?_
  refine s2 ?_
  refine aP (pMul rfl rfl rfl) ?_
  refine aP (pAdd rfl rfl rfl) ?_
  refine s5 ?_
  refine kJ [(7, _)] ?_
  refine s3 ?_
  refine JL_dec (fun h33 => ?_) (fun h33 => ?_)
  ·refine s5 ?_
   refine kJ [] ?_
   refine s7 ?_
   refine JR_one rfl (rr_tmp rfl) ?_
   intro w' hw
   have e : touZ p q = -1 := by unfold touZ sqd; rw [if_neg (by omega), if_pos h33]
   rw [e]; exact ⟨rfl, hw.bel⟩
  ·refine s8 ?_
   refine JL_dec (fun h36 => ?_) (fun h36 => ?_)
   ·refine s5 ?_
    refine kJ [] ?_
    refine s7 ?_
    refine JR_one rfl (rr_tmp rfl) ?_
    intro w' hw
    have e : touZ p q = 1 := by unfold touZ sqd; rw [if_neg (by omega), if_neg (by omega), if_pos (by omega)]
    rw [e]; exact ⟨rfl, hw.bel⟩
   ·refine s8 ?_
    refine kJ [] ?_
    refine s5 ?_
    refine JR_one rfl (rr_tmp rfl) ?_
    intro w' hw
    have e : touZ p q = 0 := by unfold touZ sqd; rw [if_neg (by omega), if_neg (by omega), if_neg (by omega)]
    rw [e]; exact ⟨rfl, hw.bel⟩
end Go.Proofs.YtmcpnoailbmkkaaGreat
