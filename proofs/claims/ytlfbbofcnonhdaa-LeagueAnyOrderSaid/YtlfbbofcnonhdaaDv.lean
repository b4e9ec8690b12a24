/- Slices of slices: in memory of the call's own. -/
import Derived.Test.YtlfbbofcnonhdaaDp
import Derived.Test.YtlfbbofcnonhdaaA
namespace Go.Proofs.Ytlfbbofcnonhdaa
open Go.RowKit Go.Proofs Go.Shelf

theorem HoldL.kc {α : Type} {k : Nat} {enc : α → List Value} (E : Enc k enc) {w w' : World} {b o n0 : Nat} {l : List α} (h : HoldL k enc w b o l) (hk : Kc n0 w w') : HoldL k enc w' b o l := fun j hj i hi => by
 have h1 := h j hj i hi
 have : i < (enc (l[j]'hj)).length := by rw [E.len]; exact hi
 rw [List.getElem?_eq_getElem this] at h1 ⊢
 obtain ⟨ob, hob, hcc⟩ := cells_of_cell h1
 have hb : w'.heap[b]? = w.heap[b]? := by
  cases ob with
  | cells cs t fz => exact (hk.2 _ _ _ _ hob).trans hob.symm
  | _ => cases hcc
 rw [cell_heap hb]; exact h1
theorem Arr.kc {α : Type} {k : Nat} {enc : α → List Value} (E : Enc k enc) {w w' : World} {n0 : Nat} {v : Value} {l : List α} (h : Arr k enc w v l) (hk : Kc n0 w w') : Arr k enc w' v l := by
 obtain ⟨A, cap, h1, h2, h3, h4⟩ := h
 exact ⟨A, cap, h1, h2, h3, fun hn => by obtain ⟨b, o, h5, h6⟩ := h4 hn; exact ⟨b, o, h5, h6.kc E hk⟩⟩
theorem row_kc {base ty sz n n0 : Nat} {v : Value} {xs : List Value} {W W' : World} (h : W.ownsRow base ty sz v n xs) (hk : Kc n0 W W') : W'.ownsRow base ty sz v n xs := by
 obtain ⟨q1, q2⟩ := h
 refine ⟨q1, q2.imp_right ?_⟩
 rintro ⟨g, cap, cur, q3, q4, q5, q6⟩
 exact ⟨g, cap, cur, q3, q4, hk.2 _ _ _ _ q5, q6⟩
/-- A slice's parts, and what it holds. -/
structure Dv (α : Type) where
 A : Option Addr
 n : Nat
 c : Nat
 l : List α
abbrev Dv.v {α : Type} (p : Dv α) : Value := .slice p.A p.n p.c
def eD {α : Type} (p : Dv α) : List Value := [.slice p.A p.n p.c]
theorem ED {α : Type} : Enc 1 (eD (α := α)) := ⟨fun _ => rfl, fun x v h => by simp [eD] at h; subst h; rfl⟩
section
variable {α : Type} {k : Nat} {enc : α → List Value}
/-- Slices whose blocks lie from some number on, and are not the block that grows. -/
def DvO (k : Nat) (enc : α → List Value) (W : World) (base : Nat) (ob : Option Nat) (D : List (Dv α)) : Prop := ∀ p ∈ D, Arr k enc W p.v p.l ∧ ∀ g o, p.A = some ⟨g, o, none⟩ → base ≤ g ∧ g < W.heap.size ∧ some g ≠ ob
theorem DvO.nil {W : World} {base : Nat} {ob : Option Nat} : DvO k enc W base ob [] := fun _ h => by cases h
theorem DvO.up (E : Enc k enc) {W W' : World} {base : Nat} {ob : Option Nat} {D : List (Dv α)} (h : DvO k enc W base ob D) (hb : Below W.heap.size W W') : DvO k enc W' base ob D := fun p hp => by
 obtain ⟨h1, h3⟩ := h p hp
 exact ⟨h1.up E hb, fun g o e => by have := h3 g o e; exact ⟨this.1, Nat.lt_of_lt_of_le this.2.1 hb.size, this.2.2⟩⟩
theorem DvO.kc (E : Enc k enc) {W W' : World} {base n0 : Nat} {ob : Option Nat} {D : List (Dv α)} (h : DvO k enc W base ob D) (hk : Kc n0 W W') : DvO k enc W' base ob D := fun p hp => by
 obtain ⟨h1, h3⟩ := h p hp
 exact ⟨h1.kc E hk, fun g o e => by have := h3 g o e; exact ⟨this.1, Nat.lt_of_lt_of_le this.2.1 hk.1.size, this.2.2⟩⟩
theorem DvO.grown (E : Enc k enc) {W W' : World} {base : Nat} {ob ob' : Option Nat} {D : List (Dv α)} (h : DvO k enc W base ob D) (hg : W.grownBy W' ob) (ho : ob' = ob ∨ ob' = some W.heap.size) : DvO k enc W' base ob' D := fun p hp => by
 obtain ⟨h1, h3⟩ := h p hp
 refine ⟨h1.keptA E hg (fun g o e => (h3 g o e).2.2), fun g o e => ?_⟩
 obtain ⟨q1, q2, q3⟩ := h3 g o e
 refine ⟨q1, Nat.lt_of_lt_of_le q2 hg.size, ?_⟩
 rcases ho with rfl | rfl
 ·exact q3
 ·intro e; injection e with e; omega
theorem DvO.kept (E : Enc k enc) {W W' : World} {base j : Nat} {ob : Option Nat} {D : List (Dv α)} (h : DvO k enc W base ob D) (hg : W.grownBy W' (some j)) (hk : j < base) : DvO k enc W' base ob D := fun p hp => by
 obtain ⟨h1, h3⟩ := h p hp
 refine ⟨h1.keptA E hg (fun g o e => by have := (h3 g o e).1; intro e; injection e with e; omega), fun g o e => ?_⟩
 obtain ⟨q1, q2, q3⟩ := h3 g o e
 exact ⟨q1, Nat.lt_of_lt_of_le q2 hg.size, q3⟩
theorem DvO.snoc {W : World} {base : Nat} {ob : Option Nat} {D : List (Dv α)} {p : Dv α} (h : DvO k enc W base ob D) (hp : Arr k enc W p.v p.l ∧ ∀ g o, p.A = some ⟨g, o, none⟩ → base ≤ g ∧ g < W.heap.size ∧ some g ≠ ob) : DvO k enc W base ob (D ++ [p]) := fun q hq => by
 rcases List.mem_append.1 hq with h1 | h1
 ·exact h q h1
 ·rw [List.mem_singleton.1 h1]; exact hp
/-- A slice of slices of the call's own, with their contents. -/
def OwnD (base ty k : Nat) (enc : α → List Value) (W : World) (u : Value) (dd : List (List α)) : Prop := ∃ D : List (Dv α), Own base ty 1 eD W u D ∧ DvO k enc W base u.ownBlock D ∧ D.map Dv.l = dd
theorem OwnD.up (E : Enc k enc) {base ty : Nat} {W W' : World} {u : Value} {dd : List (List α)} (h : OwnD base ty k enc W u dd) (hb : Below W.heap.size W W') : OwnD base ty k enc W' u dd := by
 obtain ⟨D, h1, h2, h3⟩ := h
 exact ⟨D, row_up h1 hb, h2.up E hb, h3⟩
theorem OwnD.kc (E : Enc k enc) {base ty n0 : Nat} {W W' : World} {u : Value} {dd : List (List α)} (h : OwnD base ty k enc W u dd) (hb : Kc n0 W W') : OwnD base ty k enc W' u dd := by
 obtain ⟨D, h1, h2, h3⟩ := h
 exact ⟨D, row_kc h1 hb, h2.kc E hb, h3⟩
theorem OwnD.nil (base ty : Nat) (W : World) : OwnD base ty k enc W (.slice none 0 0) [] := ⟨[], World.ownsRow_nil _ _ _ _, DvO.nil, rfl⟩
theorem row_kept {base ty sz n j : Nat} {v : Value} {xs : List Value} {W W' : World} (h : W.ownsRow base ty sz v n xs) (hg : W.grownBy W' (some j)) (hj : j < base) : W'.ownsRow base ty sz v n xs := by
 obtain ⟨q1, q2⟩ := h
 refine ⟨q1, q2.imp_right ?_⟩
 rintro ⟨g, cap, cur, q3, q4, q5, q6⟩
 exact ⟨g, cap, cur, q3, q4, (hg.block g (Array.getElem?_eq_some_iff.1 q5).1 (fun e => by injection e with e; omega)).trans q5, q6⟩
theorem OwnD.kept (E : Enc k enc) {base ty j : Nat} {W W' : World} {u : Value} {dd : List (List α)} (h : OwnD base ty k enc W u dd) (hg : W.grownBy W' (some j)) (hj : j < base) : OwnD base ty k enc W' u dd := by
 obtain ⟨D, h1, h2, h3⟩ := h
 exact ⟨D, row_kept h1 hg hj, h2.kept E hg hj, h3⟩
theorem row_le {base b' ty sz n : Nat} {v : Value} {xs : List Value} {W : World} (h : W.ownsRow base ty sz v n xs) (hb : b' ≤ base) : W.ownsRow b' ty sz v n xs := by
 obtain ⟨q1, q2⟩ := h
 refine ⟨q1, q2.imp_right ?_⟩
 rintro ⟨g, cap, cur, q3, q4, q5⟩
 exact ⟨g, cap, cur, q3, Nat.le_trans hb q4, q5⟩
theorem OwnD.le {base b' ty : Nat} {W : World} {u : Value} {dd : List (List α)} (h : OwnD base ty k enc W u dd) (hb : b' ≤ base) : OwnD b' ty k enc W u dd := by
 obtain ⟨D, h1, h2, h3⟩ := h
 exact ⟨D, row_le h1 hb, fun p hp => ⟨(h2 p hp).1, fun g o e => ⟨Nat.le_trans hb ((h2 p hp).2 g o e).1, ((h2 p hp).2 g o e).2⟩⟩, h3⟩
theorem OwnD.form {base ty : Nat} {W : World} {u : Value} {dd : List (List α)} (h : OwnD base ty k enc W u dd) : ∃ A c, u = .slice A dd.length c := by
 obtain ⟨D, h1, h2, rfl⟩ := h
 obtain ⟨A, c, h4, -⟩ := row_form h1
 exact ⟨A, c, by rw [List.length_map]; exact h4⟩
theorem OwnD.ge {base ty j : Nat} {W : World} {u : Value} {dd : List (List α)} (h : OwnD base ty k enc W u dd) (hj : u.ownBlock = some j) : base ≤ j ∧ j < W.heap.size ∧ ∃ o, W.heap[j]? = some o ∧ o.isCells = true := by
 obtain ⟨D, h1, -⟩ := h
 obtain ⟨h2, o, h3, h4⟩ := row_ge h1 hj
 exact ⟨h2, (Array.getElem?_eq_some_iff.1 h3).1, o, h3, h4⟩
/-- append: one slice more. -/
theorem run_appD (E : Enc k enc) {sl ty e : TypeId} (ht : Try.prog.underlying sl = some (.slice ty)) (hinf : (Try.prog.info? ty).map (fun i => (i.zero, i.size, i.bytes)) = some (some (.slice none 0 0), 1, 24))
  {w : World} {base : Nat} {v : Value} {dd : List (List α)} (hown : OwnD base ty k enc w v dd) (p : Dv α) (hp : Arr k enc w p.v p.l) (hpA : ∀ g o, p.A = some ⟨g, o, none⟩ → base ≤ g ∧ g < w.heap.size ∧ some g ≠ v.ownBlock) (hl : dd.length ≤ 1000) (hbase : base ≤ w.heap.size) :
  ∃ v' w', (Builtin.append_ #[sl, sl] e #[v, .slice (some ⟨w.heap.size, 0, none⟩) 1 1]).run Try.prog (w.alloc (.cells #[p.v] ty)) = .ok v' w' ∧ OwnD base ty k enc w' v' (dd ++ [p.l]) ∧ (w.alloc (.cells #[p.v] ty)).grownBy w' v.ownBlock ∧ (v'.ownBlock = v.ownBlock ∨ v'.ownBlock = some (w.heap.size + 1)) ∧ ∃ A c, v' = .slice A (dd.length + 1) c := by
 obtain ⟨D, h1, h2, rfl⟩ := hown
 have hb : Below w.heap.size w (w.alloc (.cells #[p.v] ty)) := (Below.refl _ _).alloc (Nat.le_refl _) _
 rw [List.length_map] at hl ⊢
 obtain ⟨v', w', r1, r2, r3, r4, r5⟩ := run_app (ty := e) ED (by decide) ht hinf rfl (by decide) (w := w.alloc (.cells #[p.v] ty)) (M := [p]) (row_up h1 hb) (a := ⟨w.heap.size, 0, none⟩) (c := 1) rfl (news_one w ty (enc := eD) p) (by simp; omega) (by simp; omega)
 refine ⟨v', w', r1, ⟨D ++ [p], r2, ?_, by rw [List.map_append]; rfl⟩, r3, by simpa using r4, by simpa using r5⟩
 have o1 : DvO k enc w base v.ownBlock (D ++ [p]) := h2.snoc ⟨hp, hpA⟩
 exact (o1.up E hb).grown E r3 r4
end
theorem Try.info41 : (Try.prog.info? 41).map (fun i => (i.zero, i.size, i.bytes)) = some (some (.slice none 0 0), 1, 24) := by kernel_rfl
end Go.Proofs.Ytlfbbofcnonhdaa
