/- The walk by live slots: maps.clone. -/
import Derived.Test.YtlfbbofcnonhdaaBd
import Derived.Test.YtlfbbofcnonhdaaEa
import Derived.Laws.Externs
import Derived.MapKept
namespace Go.Proofs.Ytlfbbofcnonhdaa
open Go Go.RowKit Go.Proofs
theorem run_clone66 {w : World} {b : Nat} {es : Array MapEntry} {clock : Nat} (hb : w.heap[b]? = some (.map es clock)) :
    (Extern.MapsClone.clone #[.iface 66 (.map (some b))]).run Try.prog w = .ok (.iface 66 (.map (some w.heap.size))) (w.alloc (.map es clock)) := by
  have e : Extern.MapsClone.clone #[.iface 66 (.map (some b))] = (getObj b >>= fun o => match o with
      | .map entries clock => (newObj (.map entries clock) >>= fun n => pure (.iface 66 (.map (some n))))
      | _ => stuck "maps.clone: a map expected") := rfl
  rw [e]
  simp [MapKept.run_getObj_map hb, Result.andThen, go_sem]
section
variable {n : Nat} {B : Bs} {l : Sl} {H : List It} {o : Oper}
set_option maxRecDepth 100000 in
theorem ow_clone {d b k : Nat} {x : Operand} {ts : Array TypeId} {f : Int → Option Int} (ho : o.op = .call { callee := .value (.func 92), args := #[x], argTypes := ts }) (hd : o.dst = some d) (hn : Nat.ble n d = false) (hx : evl l x = some (.iface 66 (.map (some b)))) (hm : ∀ w, Wd B H w → (resB b k f).holds w) :
    OpW Try.prog n B none l H o (fun b' : Nat => B.w.heap.size ≤ b') (fun b' => (d, .iface 66 (.map (some b'))) :: l) (fun b' => resB b' k f :: H) :=
  OpW.of_run hd hn (fun a w ha hw => by
    obtain ⟨m, c, h0, D, ⟨es, clock, h1, h2⟩, h3⟩ := hm w hw
    have hc := run_callFunc_extern (P := Try.prog) (f := 92) (fn := Try.f92) (e := Extern.MapsClone.clone) (by kernel_rfl) (by kernel_rfl) (by kernel_rfl) (by kernel_rfl) (by kernel_rfl) #[.iface 66 (.map (some b))] w
    rw [run_clone66 h1] at hc
    refine ⟨w.heap.size, _, hw.size, ?_, hw.new ((Below.refl _ _).alloc (Nat.le_refl _) _) (show ∃ n c, _ from ⟨m, c, h0, D, ⟨es, clock, (MapKept.heap_alloc w _).1, h2⟩, h3⟩) (fun b e => by cases e; simp), (show Below _ _ _ from (Below.refl _ _).alloc (Nat.le_refl _) _)⟩
    unfold execOp
    rw [ho]
    simp only [resolve, List.map_toArray, List.map_cons, List.map_nil, ha.ev hx]
    have e : (do let d ← Deferred.ofValue (a.eval (.func 92)) #[.iface 66 (.map (some b))]; invoke d.target d.args) = callFunc 92 (#[.iface 66 (.map (some b))] ++ #[]) := by
      simp [Deferred.ofValue, Act.eval, invoke]
    rw [e, Array.append_empty, hc]
    rfl)
end
section
variable {ρ : Operand → Value} {o : Oper} {w : World} {x y : Operand} {ty : TypeId}
theorem eqIn66 (d : Nat) (p : Option Nat) (w : World) : (Op.equalIn (d + 1) 66 (.map p) (.map none)).run Try.prog w = .ok p.isNone w := by
  cases p <;> simp [Op.equalIn, run_underlying Try.underlying66]
theorem eql66 (p : Option Nat) (w : World) : (binOp .eql 66 (.map p) (.map none)).run Try.prog w = .ok (.bool p.isNone) w := by
  simp only [binOp]
  simp [show Op.equal 66 (.map p) (.map none) = Op.equalIn (9999 + 1) 66 (.map p) (.map none) from rfl, eqIn66 9999 p w]
theorem ex_eqlMap {p : Option Nat} (ho : o.op = .binOp .eql 66 x y ty) (hx : ρ x = .map p) (hy : ρ y = .map none) : (execOp ρ o).run Try.prog w = .ok (.value (.bool p.isNone)) w := by
  have h := eql66 p w
  unfold execOp
  simp only [ho, hx, hy]
  simp [h, eqGuard]
theorem ex_iface {v : Value} (ho : o.op = .makeInterface 66 x) (hx : ρ x = v) : (execOp ρ o).run Try.prog w = .ok (.value (.iface 66 v)) w := by
  unfold execOp
  simp only [ho, hx]
  have h := run_makeInterface (P := Try.prog) (w := w) 66 v (by kernel_rfl)
  simp only [Sem.run_bind, h, Result.andThen_ok, Sem.run_pure]
theorem ex_assert {v : Value} (ho : o.op = .typeAssert x 20 66 false) (hx : ρ x = .iface 66 v) : (execOp ρ o).run Try.prog w = .ok (.value v) w := by
  have h : (Instr.typeAssert (.iface 66 v) 20 66 false).run Try.prog w = .ok v w := by
    simp [Instr.typeAssert, run_underlying Try.underlying66, go_sem, Result.andThen]
  unfold execOp
  simp only [ho, hx, Sem.run_bind, h, Result.andThen_ok, Sem.run_pure]
end
end Go.Proofs.Ytlfbbofcnonhdaa
