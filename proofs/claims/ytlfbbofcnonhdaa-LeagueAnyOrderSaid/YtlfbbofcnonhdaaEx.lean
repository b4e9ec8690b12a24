/- Single operations, as they run: for regions whose operations are taken one by one. -/
import Derived.Test.YtlfbbofcnonhdaaGp
import Derived.Test.YtlfbbofcnonhdaaRg
namespace Go.Proofs.Ytlfbbofcnonhdaa
open Go.RowKit Go.Proofs Go.Shelf
attribute [local go_sem] Oper.semAt_some

section
variable {ρ : Operand → Value} {o : Oper} {w : World} {x y : Operand} {t : TypeId}
theorem ex_load {b off : Nat} {v : Value} (ho : o.op = .load t x) (hx : ρ x = .pointer (some ⟨b, off, none⟩)) (hagg : ∀ w, (isAgg t).run Try.prog w = .ok false w) (hc : w.cell? ⟨b, off, none⟩ = some v) :
  (execOp ρ o).run Try.prog w = .ok (.value v) w := by
 have h1 := hagg w
 unfold execOp
 simp only [ho, hx]
 go_simp
theorem ex_add {a b : Int} {ty : TypeId} (ho : o.op = .binOp .add 3 x y ty) (hx : ρ x = .int .i64 a) (hy : ρ y = .int .i64 b) (hb : -9223372036854775808 ≤ a + b ∧ a + b ≤ 9223372036854775807) :
  (execOp ρ o).run Try.prog w = .ok (.value (.int .i64 (a + b))) w := by
 unfold execOp
 simp only [ho, hx, hy]
 go_simp
 exact IntWalk.i64_in _ hb
theorem ex_sub {a b : Int} {ty : TypeId} (ho : o.op = .binOp .sub 3 x y ty) (hx : ρ x = .int .i64 a) (hy : ρ y = .int .i64 b) (hb : -9223372036854775808 ≤ a - b ∧ a - b ≤ 9223372036854775807) :
  (execOp ρ o).run Try.prog w = .ok (.value (.int .i64 (a - b))) w := by
 unfold execOp
 simp only [ho, hx, hy]
 go_simp
 exact IntWalk.i64_in _ hb
theorem ex_mul {a b : Int} {ty : TypeId} (ho : o.op = .binOp .mul 3 x y ty) (hx : ρ x = .int .i64 a) (hy : ρ y = .int .i64 b) (hb : -9223372036854775808 ≤ a * b ∧ a * b ≤ 9223372036854775807) :
  (execOp ρ o).run Try.prog w = .ok (.value (.int .i64 (a * b))) w := by
 unfold execOp
 simp only [ho, hx, hy]
 go_simp
 exact IntWalk.i64_in _ hb
theorem ex_lss {a b : Int} {ty : TypeId} (ho : o.op = .binOp .lss 3 x y ty) (hx : ρ x = .int .i64 a) (hy : ρ y = .int .i64 b) : (execOp ρ o).run Try.prog w = .ok (.value (.bool (decide (a < b)))) w := by
 unfold execOp
 simp only [ho, hx, hy]
 go_simp
theorem ex_gtr {a b : Int} {ty : TypeId} (ho : o.op = .binOp .gtr 3 x y ty) (hx : ρ x = .int .i64 a) (hy : ρ y = .int .i64 b) : (execOp ρ o).run Try.prog w = .ok (.value (.bool (decide (b < a)))) w := by
 unfold execOp
 simp only [ho, hx, hy]
 go_simp
theorem ex_eql {a b : Int} {ty : TypeId} (ho : o.op = .binOp .eql 3 x y ty) (hx : ρ x = .int .i64 a) (hy : ρ y = .int .i64 b) : (execOp ρ o).run Try.prog w = .ok (.value (.bool (a == b))) w := by
 unfold execOp
 simp only [ho, hx, hy]
 go_simp
theorem ex_neq {a b : Int} {ty : TypeId} (ho : o.op = .binOp .neq 3 x y ty) (hx : ρ x = .int .i64 a) (hy : ρ y = .int .i64 b) : (execOp ρ o).run Try.prog w = .ok (.value (.bool (a != b))) w := by
 unfold execOp
 simp only [ho, hx, hy]
 go_simp
theorem ex_geq {a b : Int} {ty : TypeId} (ho : o.op = .binOp .geq 3 x y ty) (hx : ρ x = .int .i64 a) (hy : ρ y = .int .i64 b) : (execOp ρ o).run Try.prog w = .ok (.value (.bool (decide (b ≤ a)))) w := by
 unfold execOp
 simp only [ho, hx, hy]
 go_simp
theorem ex_leq {a b : Int} {ty : TypeId} (ho : o.op = .binOp .leq 3 x y ty) (hx : ρ x = .int .i64 a) (hy : ρ y = .int .i64 b) : (execOp ρ o).run Try.prog w = .ok (.value (.bool (decide (a ≤ b)))) w := by
 unfold execOp
 simp only [ho, hx, hy]
 go_simp
theorem ex_max {a b : Int} {t1 t2 : TypeId} (ho : o.op = .call { callee := .builtin .max, args := #[x, y], argTypes := #[t1, t2] }) (hx : ρ x = .int .i64 a) (hy : ρ y = .int .i64 b) : (execOp ρ o).run Try.prog w = .ok (.value (.int .i64 (max a b))) w := by
 unfold execOp
 simp only [ho, resolve, List.map_toArray, List.map_cons, List.map_nil, hx, hy]
 go_simp
 split <;> omega
theorem ex_min {a b : Int} {t1 t2 : TypeId} (ho : o.op = .call { callee := .builtin .min, args := #[x, y], argTypes := #[t1, t2] }) (hx : ρ x = .int .i64 a) (hy : ρ y = .int .i64 b) : (execOp ρ o).run Try.prog w = .ok (.value (.int .i64 (min a b))) w := by
 unfold execOp
 simp only [ho, resolve, List.map_toArray, List.map_cons, List.map_nil, hx, hy]
 go_simp
 split <;> omega
theorem ex_len {A : Option Addr} {n c : Nat} {e : TypeId} (ho : o.op = .call { callee := .builtin .len, args := #[x], argTypes := #[t] }) (ht : Try.prog.underlying t = some (.slice e)) (hx : ρ x = .slice A n c) : (execOp ρ o).run Try.prog w = .ok (.value (.int .i64 (n : Nat))) w := by
 unfold execOp
 simp only [ho, resolve, List.map_toArray, List.map_cons, List.map_nil, hx]
 go_simp
theorem ex_index {b off off' n c k sz : Nat} {e : TypeId} (ho : o.op = .indexAddr t x y) (hx : ρ x = .slice (some ⟨b, off, none⟩) n c) (hy : ρ y = .int .i64 (k : Nat)) (ht : Try.prog.underlying t = some (.slice e)) (hs : ∀ w, (sizeOf e).run Try.prog w = .ok sz w) (hk : k < n) (he : off + k * sz = off') :
  (execOp ρ o).run Try.prog w = .ok (.value (.pointer (some ⟨b, off', none⟩))) w := by
 have h1 := hs w
 have h2 : ¬ (k : Int) < 0 := by omega
 have h3 : (k : Int) < (n : Int) := by omega
 subst he
 unfold execOp
 simp only [ho, hx, hy]
 go_simp
end
section
variable {P : Program} {ops : Array Oper} {Q : Exit → Act → World → Prop} {md : Region.Mode} {S : Nat → World → Prop}
/-- Take number i first; its slot is d. -/
theorem wpAnyP_takeD {i d : Nat} {oi : Oper} {v : Value} {fuel : Nat} {listed : Array Bool} {a : Act} {w : World} (hi : ops[i]? = some oi) (hd : oi.dst = some d)
  (hs : Region.noSelect ops = true) (hf : Region.free md ops listed i = true) (hr : (Region.ready md ops listed).contains i = true)
  (hQ : ∀ c a w, Q (.panic c) (a.put oi.dst v) w → Q (.panic c) a w) (hy : YieldsIf P ops (S i) oi v a) (hS : S i w)
  (h : wpAnyP P md ops Q S fuel (listed.setIfInBounds i true) (a.put (some d) v) w) : wpAnyP P md ops Q S (fuel + 1) listed a w :=
 wpAnyP_take hi hs hf hr hQ hy hS (by rw [hd]; exact h)
/-- Only number i may come up, and it stores. -/
theorem wpAnyP_store {i : Nat} {o : Oper} {fuel : Nat} {listed : Array Bool} {a : Act} {w w' : World} (hr : Region.ready md ops listed = [i]) (hi : ops[i]? = some o) (hd : o.dst = none) (hg : o.guard = none)
  (hrun : (execOp a.eval o).run P w = .ok .skip w') (hS : ∀ k, frB md ops i k = true → S k w → S k w') (h : wpAnyP P md ops Q S fuel (listed.setIfInBounds i true) a w') : wpAnyP P md ops Q S (fuel + 1) listed a w :=
 wpAnyP_one hr (wpOp_skip hi hg hrun ⟨hS, by rw [hd]; exact h⟩)
/-- Only number i may come up, and it runs; its slot is d. -/
theorem wpAnyP_runD {i d : Nat} {o : Oper} {fuel : Nat} {listed : Array Bool} {a : Act} {w w' : World} {v : Value} (hr : Region.ready md ops listed = [i]) (hi : ops[i]? = some o) (hd : o.dst = some d) (hg : o.guard = none)
  (hrun : (execOp a.eval o).run P w = .ok (.value v) w') (hS : ∀ k, frB md ops i k = true → S k w → S k w') (h : wpAnyP P md ops Q S fuel (listed.setIfInBounds i true) (a.put (some d) v) w') : wpAnyP P md ops Q S (fuel + 1) listed a w :=
 wpAnyP_one hr (wpOp_run hi hg hrun ⟨hS, by rw [hd]; exact h⟩)
/-- Only number i may come up, and it calls; its slot is d. -/
theorem wpAnyP_callD {i d : Nat} {o : Oper} {fuel : Nat} {listed : Array Bool} {a : Act} {w : World} {f : FuncId} {args : Array Value} (hr : Region.ready md ops listed = [i]) (hi : ops[i]? = some o) (hd : o.dst = some d) (hg : o.guard = none)
  (hrun : (execOp a.eval o).run P w = .ok (.enter f args) w) (h : Calls P f args w fun e w' => ∃ v, e = .returned v ∧ (∀ k, frB md ops i k = true → S k w → S k w') ∧ wpAnyP P md ops Q S fuel (listed.setIfInBounds i true) (a.put (some d) v) w') : wpAnyP P md ops Q S (fuel + 1) listed a w :=
 wpAnyP_one hr (wpOp_call hi hg hrun (h.mono fun e w' ⟨v, he, h1, h2⟩ => ⟨v, he, h1, by rw [hd]; exact h2⟩))
end
end Go.Proofs.Ytlfbbofcnonhdaa
