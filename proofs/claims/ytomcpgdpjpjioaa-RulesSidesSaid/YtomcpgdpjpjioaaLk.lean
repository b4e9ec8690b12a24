/- What a table of stones says of a name. -/
import Derived.Test.YtomcpgdpjpjioaaTb
import Derived.Test.YtomcpgdpjpjioaaEq
namespace Go.Proofs.Ytomcpgdpjpjioaa
open Go.RowKit Go.Proofs Go.Shelf
attribute [local go_sem] Oper.semAt_some

theorem eqK_iff (x y x' y' : Int) : eqK x y x' y' = true ↔ x = x' ∧ y = y' := by simp [eqK]
/-- The stone of a name. -/
def lookT (l : List St) (t n : Int) : Option St := l.foldl (fun r s => if eqK s.t s.n t n = true then some s else r) none
theorem lookT_snoc (l : List St) (s : St) (t n : Int) : lookT (l ++ [s]) t n = if eqK s.t s.n t n = true then some s else lookT l t n := by
  unfold lookT; rw [List.foldl_append]; rfl
theorem tblM_look (t n : Int) (ht : W64 t) (hn : W64 n) (l : List St) (hok : ∀ s ∈ l, W64 s.t ∧ W64 s.n) : tblM l (kl t n) = (lookT l t n).map stDu := by
  have H : ∀ k, k ≤ l.length → tblM (l.take k) (kl t n) = (lookT (l.take k) t n).map stDu := by
    intro k
    induction k with
    | zero => intro _; rfl
    | succ k ih =>
      intro hk
      have hlt : k < l.length := by omega
      have hw := hok _ (List.getElem_mem hlt)
      rw [List.take_succ_eq_append_getElem hlt, tblM_snoc, lookT_snoc]
      unfold upd
      by_cases e : eqK (l[k]'hlt).t (l[k]'hlt).n t n = true
      · rw [if_pos e]
        obtain ⟨e1, e2⟩ := (eqK_iff _ _ _ _).1 e
        rw [if_pos (by rw [e1, e2])]
        rfl
      · rw [if_neg e, if_neg (fun h => e ((eqK_iff _ _ _ _).2 ((fun h => ⟨h.1.symm, h.2.symm⟩) (kl_inj ht hn hw.1 hw.2 h))))]
        exact ih (by omega)
  have h := H l.length (Nat.le_refl _)
  rw [List.take_length] at h
  exact h
theorem look_tbl {w : World} {b n : Nat} {l : List St} (h : MapA 75 rdSt w b n (tblM l)) (hok : ∀ s ∈ l, W64 s.t ∧ W64 s.n) {t m : Int} (ht : W64 t) (hm : W64 m) :
    (Instr.lookup 76 (.map (some b)) (Ky t m) true).run Try.prog w = .ok (.tuple #[Stv ((lookT l t m).getD ⟨0, 0, 0, 0⟩), .bool (lookT l t m).isSome]) w := by
  obtain ⟨v, ps, hrun, hv⟩ := h.look law75 Try.underlying76 (zero53 w) (rdSt_st ⟨0, 0, 0, 0⟩) (key75 ht hm)
  rw [hrun]
  rw [tblM_look t m ht hm l hok] at hv ⊢
  cases e : lookT l t m with
  | none =>
    rw [e] at hv
    rw [rdSt_inj hv]; rfl
  | some s =>
    rw [e] at hv
    rw [rdSt_inj hv]; rfl
theorem lookT_some {l : List St} {t n : Int} : (lookT l t n).isSome = l.any (fun s => eqK s.t s.n t n) := by
  have H : ∀ (l : List St) (r : Option St), (l.foldl (fun r s => if eqK s.t s.n t n = true then some s else r) r).isSome = (r.isSome || l.any (fun s => eqK s.t s.n t n)) := by
    intro l
    induction l with
    | nil => intro r; simp
    | cons s l ih =>
      intro r
      rw [List.foldl_cons, ih, List.any_cons]
      cases h : eqK s.t s.n t n <;> simp
  have := H l none
  simpa [lookT] using this
theorem ok64 {s : St} (h : okSt s) : W64 s.t ∧ W64 s.n := by
  unfold okSt at h
  unfold W64
  omega
end Go.Proofs.Ytomcpgdpjpjioaa
