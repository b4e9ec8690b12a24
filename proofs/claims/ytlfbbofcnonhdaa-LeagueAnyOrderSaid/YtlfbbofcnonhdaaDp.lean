/- Plain: the draws of a round robin. And: append to a slice of the call's own. -/
import Derived.Test.YtlfbbofcnonhdaaA
import Derived.Test.YtlfbbofcnonhdaaRg
namespace Go.Proofs.Ytlfbbofcnonhdaa
open Go.RowKit Go.Proofs Go.Shelf

def cir (T : Nat) : Nat := T - 1 + T % 2
def pr (a b : Nat) : Nat × Nat := (min a b, max a b)
def gm0 (T r : Nat) : List (Nat × Nat) := if cir T < T then [pr r (cir T)] else []
def gm1 (T r k : Nat) : List (Nat × Nat) := (List.range k).map fun j => pr ((r + (j + 1)) % cir T) ((r + cir T - (j + 1)) % cir T)
def gmP (T r : Nat) : List (Nat × Nat) := gm0 T r ++ gm1 T r ((cir T - 1) / 2)
def chk {α : Type} (n : Nat) : Nat → List α → List (List α)
 | 0, _ => []
 | f + 1, l => match l with | [] => [] | x :: r => (x :: r).take n :: chk n f ((x :: r).drop n)
def chunks {α : Type} (n : Nat) (l : List α) : List (List α) := chk n l.length l
def drP (T L : Nat) : List (List (Nat × Nat)) := (List.range (cir T)).flatMap fun r => chunks L (gmP T r)
def okIn (T : Nat) (met : List (Nat × Nat)) : List Nat → List (Nat × Nat) → Bool
 | _, [] => true
 | pl, x :: r => decide (x.1 < x.2) && decide (x.2 < T) && !met.contains x && !pl.contains x.1 && !pl.contains x.2 && okIn T (x :: met) (x.2 :: x.1 :: pl) r
def okD (T L : Nat) : List (Nat × Nat) → List (List (Nat × Nat)) → Bool
 | met, [] => met.length == T * (T - 1) / 2
 | met, d :: r => okIn T met [] d && decide (0 < d.length) && decide (d.length ≤ L) && okD T L (d.reverse ++ met) r
theorem all_ok : ∀ T : Fin 17, ∀ L : Fin 9, 2 ≤ T.1 → 1 ≤ L.1 → okD T.1 L.1 [] (drP T.1 L.1) = true := by decide +kernel
def iP (x : Nat × Nat) : Int × Int := ((x.1 : Int), (x.2 : Int))
theorem cir_pos {T : Nat} (h : 2 ≤ T) : 1 ≤ cir T := by unfold cir; omega
theorem gm1_succ (T r k : Nat) : gm1 T r (k + 1) = gm1 T r k ++ [pr ((r + (k + 1)) % cir T) ((r + cir T - (k + 1)) % cir T)] := by
 unfold gm1; rw [List.range_succ, List.map_append]; rfl
theorem gm1_len (T r k : Nat) : (gm1 T r k).length = k := by simp [gm1]
theorem gm0_len (T r : Nat) : (gm0 T r).length ≤ 1 := by unfold gm0; split <;> simp
theorem gmP_len (T r : Nat) : (gmP T r).length ≤ 1 + (cir T - 1) / 2 := by
 unfold gmP; rw [List.length_append, gm1_len]; have := gm0_len T r; omega

theorem run_append_op {P : Program} {o : Oper} {a : Act} {W W' : World} {s x : Operand} {t : TypeId} {v u v' : Value} (ho : o.op = .call { callee := .builtin .append, args := #[s, x], argTypes := #[t, t] }) (hs : a.eval s = v) (hx : a.eval x = u)
  (hrun : (Builtin.append_ #[t, t] o.type #[v, u]).run P W = .ok v' W') : (execOp a.eval o).run P W = .ok (.value v') W' := by
 unfold execOp
 simp only [ho, resolve, invoke, builtin, Sem.run_bind, Sem.run_pure, Result.andThen_ok, List.map_toArray, List.map_cons, List.map_nil, hs, hx, hrun]
section
variable {α : Type} {k : Nat} {enc : α → List Value}
/-- append: a slice of the call's own, and another one's elements. -/
theorem run_app (E : Enc k enc) (hk : 0 < k) {sl e ty : TypeId} {z : Value} {bytes : Nat} (ht : Try.prog.underlying sl = some (.slice e)) (hinf : (Try.prog.info? e).map (fun i => (i.zero, i.size, i.bytes)) = some (some z, k, bytes)) (hzs : z.cells.size = k) (hby : bytes ≤ 128)
  {w : World} {base : Nat} {v : Value} {L M : List α} (hown : Own base e k enc w v L) {a : Addr} {m c : Nat} (hm : m = M.length) (hnews : ∀ j u, (M.flatMap enc)[j]? = some u → w.cell? (a.add j) = some u) (hl : L.length + M.length ≤ 1000000) (hbase : base ≤ w.heap.size) :
  ∃ v' w', (Builtin.append_ #[sl, sl] ty #[v, .slice (some a) m c]).run Try.prog w = .ok v' w' ∧ Own base e k enc w' v' (L ++ M) ∧ w.grownBy w' v.ownBlock ∧ (v'.ownBlock = v.ownBlock ∨ v'.ownBlock = some w.heap.size) ∧ ∃ A c, v' = .slice A (L.length + M.length) c := by
 subst hm
 obtain ⟨i0, hi, hz0, hz1, hz2⟩ := info_parts hinf
 have hlm := flat_len E M
 obtain ⟨v', w', h1, h2, h3, h4, h5⟩ := run_append_own_at (P := Try.prog) w base sl ty e i0 z k bytes ht hi hz0 hz1 hz2 hzs hk v L.length (L.flatMap enc) hown a M.length c (M.flatMap enc) hlm hnews (fun u h => flat_one E h) (by unfold maxLen; omega)
  (Nat.le_trans (Nat.mul_le_mul (show L.length + M.length ≤ 1000000 from hl) hby) (by omega)) hbase
 have h2' : Own base e k enc w' v' (L ++ M) := by
  show World.ownsRow _ _ _ _ _ _ _
  rw [List.length_append, List.flatMap_append]; exact h2
 obtain ⟨A, c', h6, -, -⟩ := row_form h2
 exact ⟨v', w', h1, h2', h3, h5, A, c', h6⟩
end
end Go.Proofs.Ytlfbbofcnonhdaa
