/- Walk: RulesSides. Ahead: laws of drawn regions, over any program; throws in variables. -/
import Derived.Test.YtomcpgdpjpjioaaJw
import Derived.Test.YtomcpgdpjpjioaaQb
namespace Go.Proofs.Ytomcpgdpjpjioaa
open Go.RowKit Go.Proofs Go.Shelf
attribute [local go_sem] Oper.semAt_some

section
variable {P : Program} {ops : Array Oper} {Q : Exit → Act → World → Prop} {md : Region.Mode} {S : Nat → World → Prop}
/-- Three of them may come up. -/
theorem wpAnyP_three {i j k : Nat} {fuel : Nat} {listed : Array Bool} {a : Act} {w : World} (hr : Region.ready md ops listed = [i, j, k])
    (h1 : wpOp P ops Q i (fun a' w' => (∀ k, frB md ops i k = true → S k w → S k w') ∧ wpAnyP P md ops Q S fuel (listed.setIfInBounds i true) a' w') a w)
    (h2 : wpOp P ops Q j (fun a' w' => (∀ k, frB md ops j k = true → S k w → S k w') ∧ wpAnyP P md ops Q S fuel (listed.setIfInBounds j true) a' w') a w)
    (h3 : wpOp P ops Q k (fun a' w' => (∀ m, frB md ops k m = true → S m w → S m w') ∧ wpAnyP P md ops Q S fuel (listed.setIfInBounds k true) a' w') a w) : wpAnyP P md ops Q S (fuel + 1) listed a w :=
  ⟨fun h0 => by (rw [hr] at h0; cases h0), fun m hm => by
    rw [hr] at hm
    simp only [List.mem_cons, List.not_mem_nil, or_false] at hm
    rcases hm with rfl | rfl | rfl
    · exact h1
    · exact h2
    · exact h3⟩
/-- An operation that never ends the region: its other ends may be any. -/
theorem wpOp_ends {Q' : Exit → Act → World → Prop} (hq : ∀ e a w, Q' e a w → Q e a w) {i : Nat} {K : Act → World → Prop} {a : Act} {w : World} (h : wpOp P ops Q' i K a w) : wpOp P ops Q i K a w := by
  unfold wpOp at h ⊢
  cases ho : ops[i]? with
  | none => simp only [ho] at h ⊢; exact h
  | some o =>
    simp only [ho] at h ⊢
    split
    · rename_i hw
      rw [if_pos hw] at h
      have hl : LetsOut Q' → LetsOut Q := fun ⟨a, w, h⟩ => ⟨a, w, hq _ _ _ h⟩
      refine h.imp (fun h => ?_) (fun h => ⟨h.1, hl h.2⟩)
      unfold Oper.wp at h ⊢
      generalize (execOp a.eval o).run P w = r at h ⊢
      cases r with
      | ok x w' =>
        cases x <;> simp only [Oper.upon] at h ⊢
        case value => exact h
        case skip => exact h
        case defer => exact h
        case enter =>
          refine h.mono ?_
          intro e w'' h
          cases e with
          | returned v => exact h
          | panicked c => exact hq _ _ _ h
          | outgrown => exact hl h
        case row => exact h
      | halt x w' => cases x <;> simp only [Oper.upon] at h ⊢ <;> first | exact hq _ _ _ h | exact h
    · rename_i hw
      rw [if_neg hw] at h
      exact h
theorem wpAnyP_ends {Q' : Exit → Act → World → Prop} (hq : ∀ e a w, Q' e a w → Q e a w) : ∀ (fuel : Nat) (listed : Array Bool) (a : Act) (w : World), wpAnyP P md ops Q' S fuel listed a w → wpAnyP P md ops Q S fuel listed a w
  | 0, _, _, _, h => ⟨h.1, hq _ _ _ h.2⟩
  | fuel + 1, _, _, _, h => ⟨fun hr => hq _ _ _ (h.1 hr), fun j hj => wpOp_ends hq (wpOp_mono (fun a' w' h' => ⟨h'.1, wpAnyP_ends hq fuel _ a' w' h'.2⟩) (h.2 j hj))⟩
/-- A cut behind a region: it ends normally, with this frame (of three values), and what is known. -/
def CutQ {T : Type} (F : T → Act) (K : T → World → Prop) (e : Exit) (a : Act) (w : World) : Prop := e = .normal ∧ ∃ t, a = F t ∧ K t w
theorem wpAnyP_cut {T : Type} {fuel : Nat} {listed : Array Bool} {a : Act} {w : World} (F : Act → T → Act) (K : T → World → Prop)
    (h1 : wpAnyP P md ops (CutQ (F a) K) S fuel listed a w) (h2 : ∀ t w', K t w' → Q .normal (F a t) w') : wpAnyP P md ops Q S fuel listed a w :=
  wpAnyP_ends (fun e a' w' ⟨he, t, ha, hk⟩ => by subst he ha; exact h2 t w' hk) _ _ _ _ h1
theorem put_comm (a : Act) {i j : Nat} (h : i ≠ j) (v u : Value) : (a.put (some i) v).put (some j) u = (a.put (some j) u).put (some i) v := by
  unfold Act.put
  simp only
  rw [Array.setIfInBounds_comm _ _ h]
/-- Three variables of one type, made in whatever order. -/
theorem wpAnyP_allocs3 {i j k di dj dk : Nat} {oi oj ok : Oper} {o : Obj} {fuel : Nat} {listed : Array Bool} {a : Act} {w : World}
    (hi : ops[i]? = some oi) (hj : ops[j]? = some oj) (hk : ops[k]? = some ok) (gi : oi.guard = none) (gj : oj.guard = none) (gk : ok.guard = none) (ei : oi.dst = some di) (ej : oj.dst = some dj) (ek : ok.dst = some dk)
    (ri : ∀ (a : Act) w, (execOp a.eval oi).run P w = .ok (.value (.pointer (some ⟨w.heap.size, 0, none⟩))) (w.alloc o))
    (rj : ∀ (a : Act) w, (execOp a.eval oj).run P w = .ok (.value (.pointer (some ⟨w.heap.size, 0, none⟩))) (w.alloc o))
    (rk : ∀ (a : Act) w, (execOp a.eval ok).run P w = .ok (.value (.pointer (some ⟨w.heap.size, 0, none⟩))) (w.alloc o))
    (r0 : Region.ready md ops listed = [i, j, k]) (r1 : Region.ready md ops (listed.setIfInBounds i true) = [j, k]) (r2 : Region.ready md ops (listed.setIfInBounds j true) = [i, k]) (r3 : Region.ready md ops (listed.setIfInBounds k true) = [i, j])
    (r12 : Region.ready md ops ((listed.setIfInBounds i true).setIfInBounds j true) = [k]) (r13 : Region.ready md ops ((listed.setIfInBounds i true).setIfInBounds k true) = [j]) (r23 : Region.ready md ops ((listed.setIfInBounds j true).setIfInBounds k true) = [i])
    (nij : i ≠ j) (nik : i ≠ k) (njk : j ≠ k) (dij : di ≠ dj) (dik : di ≠ dk) (djk : dj ≠ dk)
    (hS : ∀ m w, S m w → S m (w.alloc o))
    (H : ∀ p q r, p ≠ q → p ≠ r → q ≠ r → (w.heap.size ≤ p ∧ p < w.heap.size + 3) → (w.heap.size ≤ q ∧ q < w.heap.size + 3) → (w.heap.size ≤ r ∧ r < w.heap.size + 3) →
      wpAnyP P md ops Q S fuel (((listed.setIfInBounds i true).setIfInBounds j true).setIfInBounds k true) (((a.put (some di) (.pointer (some ⟨p, 0, none⟩))).put (some dj) (.pointer (some ⟨q, 0, none⟩))).put (some dk) (.pointer (some ⟨r, 0, none⟩))) (((w.alloc o).alloc o).alloc o)) :
    wpAnyP P md ops Q S (fuel + 3) listed a w := by
  have z1 : (w.alloc o).heap.size = w.heap.size + 1 := by simp
  have z2 : ((w.alloc o).alloc o).heap.size = w.heap.size + 2 := by simp
  have hs : ∀ m w', (∀ l, frB md ops m l = true → S l w' → S l (w'.alloc o)) := fun _ w' l _ h => hS l w' h
  refine wpAnyP_three (i := i) (j := j) (k := k) r0 (wpOp_run hi gi (ri a w) ⟨hs i _, ?_⟩) (wpOp_run hj gj (rj a w) ⟨hs j _, ?_⟩) (wpOp_run hk gk (rk a w) ⟨hs k _, ?_⟩)
  · refine wpAnyP_two r1 (wpOp_run hj gj (rj _ _) ⟨hs j _, ?_⟩) (wpOp_run hk gk (rk _ _) ⟨hs k _, ?_⟩)
    · refine wpAnyP_one r12 (wpOp_run hk gk (rk _ _) ⟨hs k _, ?_⟩)
      rw [ei, ej, ek, z1, z2]
      exact H _ _ _ (by omega) (by omega) (by omega) (by omega) (by omega) (by omega)
    · refine wpAnyP_one r13 (wpOp_run hj gj (rj _ _) ⟨hs j _, ?_⟩)
      rw [ei, ej, ek, z1, z2, put_comm _ (Ne.symm djk), Array.setIfInBounds_comm _ _ (Ne.symm njk)]
      exact H _ _ _ (by omega) (by omega) (by omega) (by omega) (by omega) (by omega)
  · refine wpAnyP_two r2 (wpOp_run hi gi (ri _ _) ⟨hs i _, ?_⟩) (wpOp_run hk gk (rk _ _) ⟨hs k _, ?_⟩)
    · rw [Array.setIfInBounds_comm _ _ (Ne.symm nij)]
      refine wpAnyP_one r12 (wpOp_run hk gk (rk _ _) ⟨hs k _, ?_⟩)
      rw [ei, ej, ek, z1, z2, put_comm a (Ne.symm dij)]
      exact H _ _ _ (by omega) (by omega) (by omega) (by omega) (by omega) (by omega)
    · refine wpAnyP_one r23 (wpOp_run hi gi (ri _ _) ⟨hs i _, ?_⟩)
      rw [ei, ej, ek, z1, z2, put_comm _ (Ne.symm dik), put_comm a (Ne.symm dij), Array.setIfInBounds_comm _ _ (Ne.symm nik), Array.setIfInBounds_comm (xs := listed) _ _ (Ne.symm nij)]
      exact H _ _ _ (by omega) (by omega) (by omega) (by omega) (by omega) (by omega)
  · refine wpAnyP_two r3 (wpOp_run hi gi (ri _ _) ⟨hs i _, ?_⟩) (wpOp_run hj gj (rj _ _) ⟨hs j _, ?_⟩)
    · rw [Array.setIfInBounds_comm _ _ (Ne.symm nik)]
      refine wpAnyP_one r13 (wpOp_run hj gj (rj _ _) ⟨hs j _, ?_⟩)
      rw [ei, ej, ek, z1, z2, put_comm a (Ne.symm dik), put_comm _ (Ne.symm djk), Array.setIfInBounds_comm _ _ (Ne.symm njk)]
      exact H _ _ _ (by omega) (by omega) (by omega) (by omega) (by omega) (by omega)
    · rw [Array.setIfInBounds_comm _ _ (Ne.symm njk)]
      refine wpAnyP_one r23 (wpOp_run hi gi (ri _ _) ⟨hs i _, ?_⟩)
      rw [ei, ej, ek, z1, z2, put_comm a (Ne.symm djk), put_comm _ (Ne.symm dik), put_comm a (Ne.symm dij), Array.setIfInBounds_comm _ _ (Ne.symm nik), Array.setIfInBounds_comm (xs := listed) _ _ (Ne.symm nij)]
      exact H _ _ _ (by omega) (by omega) (by omega) (by omega) (by omega) (by omega)
end
/-- A throw's six cells, that may be written. -/
def t6C (x : Th) (u : Value) : List Value := [.int .i64 x.team, .int .i64 x.n, .bool x.late, .bool x.short, .int .i64 x.how, u]
def T6 (W : World) (b : Nat) (x : Th) (u : Value) : Prop := ∀ j, j < 6 → W.cell? ⟨b, j, none⟩ = (t6C x u)[j]? ∧ W.frozen? ⟨b, j, none⟩ = false
theorem T6.lt {W : World} {b : Nat} {x : Th} {u : Value} (h : T6 W b x u) : b < W.heap.size := by
  have h0 : W.cell? ⟨b, 0, none⟩ = some (.int .i64 x.team) := (h 0 (by omega)).1
  exact lt_cell h0
theorem T6.kept {w w' : World} {b : Nat} {x : Th} {u : Value} {row : Option Nat} (h : T6 w b x u) (hg : w.grownBy w' row) (hne : some b ≠ row) : T6 w' b x u := by
  have hk := hg.block b h.lt hne
  exact fun j hj => ⟨(cell_heap hk).trans (h j hj).1, (frozen_heap hk).trans (h j hj).2⟩
theorem T6.up {w w' : World} {b : Nat} {x : Th} {u : Value} (h : T6 w b x u) (hb : Below w.heap.size w w') : T6 w' b x u := h.kept (grown_of hb none) (by simp)
theorem T6.th {W : World} {b : Nat} {x : Th} {u : Value} (h : T6 W b x u) : Th6 W b x u :=
  ⟨(h 0 (by omega)).1, (h 1 (by omega)).1, (h 2 (by omega)).1, (h 3 (by omega)).1, (h 4 (by omega)).1, (h 5 (by omega)).1⟩
theorem T6.set5 {w : World} {b : Nat} {x : Th} {u : Value} (h : T6 w b x u) (q : Value) : T6 (w.setCell ⟨b, 5, none⟩ q) b x q := by
  intro j hj
  have h6 := h 5 (by omega)
  have hj' := h j hj
  rcases j with _ | _ | _ | _ | _ | _ | j
  all_goals first
    | (exfalso; omega)
    | (refine ⟨?_, ?_⟩ <;> simp_all [go_sem, t6C])
theorem T6.set0 {w : World} {b : Nat} {x : Th} {u : Value} (h : T6 w b x u) (q : Int) : T6 (w.setCell ⟨b, 0, none⟩ (.int .i64 q)) b ⟨q, x.n, x.late, x.short, x.how⟩ u := by
  intro j hj
  have h6 := h 0 (by omega)
  have hj' := h j hj
  rcases j with _ | _ | _ | _ | _ | _ | j
  all_goals first
    | (exfalso; omega)
    | (refine ⟨?_, ?_⟩ <;> simp_all [go_sem, t6C])
theorem T6.cells {W : World} {b : Nat} {x : Th} {u : Value} (h : T6 W b x u) :
    W.cell? ⟨b, 0, none⟩ = some (.int .i64 x.team) ∧ W.cell? ⟨b, 1, none⟩ = some (.int .i64 x.n) ∧ W.cell? ⟨b, 2, none⟩ = some (.bool x.late) ∧ W.cell? ⟨b, 3, none⟩ = some (.bool x.short) ∧ W.cell? ⟨b, 4, none⟩ = some (.int .i64 x.how) ∧ W.cell? ⟨b, 5, none⟩ = some u ∧
    W.frozen? ⟨b, 0, none⟩ = false ∧ W.frozen? ⟨b, 1, none⟩ = false ∧ W.frozen? ⟨b, 2, none⟩ = false ∧ W.frozen? ⟨b, 3, none⟩ = false ∧ W.frozen? ⟨b, 4, none⟩ = false ∧ W.frozen? ⟨b, 5, none⟩ = false :=
  ⟨(h 0 (by omega)).1, (h 1 (by omega)).1, (h 2 (by omega)).1, (h 3 (by omega)).1, (h 4 (by omega)).1, (h 5 (by omega)).1, (h 0 (by omega)).2, (h 1 (by omega)).2, (h 2 (by omega)).2, (h 3 (by omega)).2, (h 4 (by omega)).2, (h 5 (by omega)).2⟩
theorem T6.all {w : World} {b : Nat} {x : Th} {u : Value} (h : T6 w b x u) (x' : Th) (u' : Value) : T6 (w.setCells b 0 (t6C x' u')) b x' u' := by
  intro j hj
  refine ⟨?_, by rw [World.frozen?_setCells]; exact (h j hj).2⟩
  have hin := World.cell?_setCells_in b (t6C x' u') 0 w (fun q hq => by
    have hq6 : q < 6 := hq
    rw [Nat.zero_add, (h q hq6).1]
    rcases q with _ | _ | _ | _ | _ | _ | q
    all_goals first
      | rfl
      | omega) j hj
  rw [Nat.zero_add] at hin
  rw [hin]
  rcases j with _ | _ | _ | _ | _ | _ | j
  all_goals first
    | rfl
    | (exfalso; omega)
/-- A new throw, all zero. -/
theorem T6.new (w : World) : T6 (w.alloc (Tho ⟨0, 0, false, false, 0⟩ (.slice none 0 0))) w.heap.size ⟨0, 0, false, false, 0⟩ (.slice none 0 0) := by
  intro j hj
  rcases j with _ | _ | _ | _ | _ | _ | j
  all_goals first
    | (exfalso; omega)
    | exact ⟨by simp [go_sem]; rfl, by simp [go_sem]⟩
abbrev ptr (b : Nat) : Value := .pointer (some ⟨b, 0, none⟩)
/-- Three throws in variables of the call's own. -/
def T3 (w W : World) (p q r : Nat) (xp xq xr : Th) (vp vq vr : Value) : Prop :=
  Below w.heap.size w W ∧ T6 W p xp vp ∧ T6 W q xq vq ∧ T6 W r xr vr ∧ (p ≠ q ∧ p ≠ r ∧ q ≠ r) ∧ w.heap.size ≤ p ∧ w.heap.size ≤ q ∧ w.heap.size ≤ r
section
variable {w W : World} {p q r : Nat} {xp xq xr : Th} {vp vq vr : Value}
theorem T3.up {W' : World} (h : T3 w W p q r xp xq xr vp vq vr) (hb : Below W.heap.size W W') : T3 w W' p q r xp xq xr vp vq vr :=
  ⟨h.1.trans (hb.mono h.1.size), h.2.1.up hb, h.2.2.1.up hb, h.2.2.2.1.up hb, h.2.2.2.2⟩
theorem T3.drew (h : T3 w W p q r xp xq xr vp vq vr) : T3 w W.drew p q r xp xq xr vp vq vr := h.up (Below.refl _ _).drew
theorem T3.below_p {W' : World} (h : T3 w W p q r xp xq xr vp vq vr) (hg : W.grownBy W' (some p)) : Below w.heap.size w W' :=
  h.1.grown hg h.1.size (fun j e => by injection e with e; have := h.2.2.2.2.2.1; omega)
theorem T3.below_q {W' : World} (h : T3 w W p q r xp xq xr vp vq vr) (hg : W.grownBy W' (some q)) : Below w.heap.size w W' :=
  h.1.grown hg h.1.size (fun j e => by injection e with e; have := h.2.2.2.2.2.2.1; omega)
theorem T3.below_r {W' : World} (h : T3 w W p q r xp xq xr vp vq vr) (hg : W.grownBy W' (some r)) : Below w.heap.size w W' :=
  h.1.grown hg h.1.size (fun j e => by injection e with e; have := h.2.2.2.2.2.2.2; omega)
theorem T3.allp (h : T3 w W p q r xp xq xr vp vq vr) (x : Th) (u : Value) : T3 w (W.setCells p 0 (t6C x u)) p q r x xq xr u vq vr := by
  have hg := grown_setCells p (t6C x u) 0 W
  obtain ⟨n1, n2, n3⟩ := h.2.2.2.2.1
  exact ⟨h.below_p hg, h.2.1.all x u, h.2.2.1.kept hg (by simp; omega), h.2.2.2.1.kept hg (by simp; omega), h.2.2.2.2⟩
theorem T3.allq (h : T3 w W p q r xp xq xr vp vq vr) (x : Th) (u : Value) : T3 w (W.setCells q 0 (t6C x u)) p q r xp x xr vp u vr := by
  have hg := grown_setCells q (t6C x u) 0 W
  obtain ⟨n1, n2, n3⟩ := h.2.2.2.2.1
  exact ⟨h.below_q hg, h.2.1.kept hg (by simp; omega), h.2.2.1.all x u, h.2.2.2.1.kept hg (by simp; omega), h.2.2.2.2⟩
theorem T3.allr (h : T3 w W p q r xp xq xr vp vq vr) (x : Th) (u : Value) : T3 w (W.setCells r 0 (t6C x u)) p q r xp xq x vp vq u := by
  have hg := grown_setCells r (t6C x u) 0 W
  obtain ⟨n1, n2, n3⟩ := h.2.2.2.2.1
  exact ⟨h.below_r hg, h.2.1.kept hg (by simp; omega), h.2.2.1.kept hg (by simp; omega), h.2.2.2.1.all x u, h.2.2.2.2⟩
theorem T3.setp5 (h : T3 w W p q r xp xq xr vp vq vr) (u : Value) : T3 w (W.setCell ⟨p, 5, none⟩ u) p q r xp xq xr u vq vr := by
  have hg := grown_set W ⟨p, 5, none⟩ u
  obtain ⟨n1, n2, n3⟩ := h.2.2.2.2.1
  exact ⟨h.below_p hg, h.2.1.set5 u, h.2.2.1.kept hg (by simp; omega), h.2.2.2.1.kept hg (by simp; omega), h.2.2.2.2⟩
theorem T3.setq5 (h : T3 w W p q r xp xq xr vp vq vr) (u : Value) : T3 w (W.setCell ⟨q, 5, none⟩ u) p q r xp xq xr vp u vr := by
  have hg := grown_set W ⟨q, 5, none⟩ u
  obtain ⟨n1, n2, n3⟩ := h.2.2.2.2.1
  exact ⟨h.below_q hg, h.2.1.kept hg (by simp; omega), h.2.2.1.set5 u, h.2.2.2.1.kept hg (by simp; omega), h.2.2.2.2⟩
theorem T3.setr5 (h : T3 w W p q r xp xq xr vp vq vr) (u : Value) : T3 w (W.setCell ⟨r, 5, none⟩ u) p q r xp xq xr vp vq u := by
  have hg := grown_set W ⟨r, 5, none⟩ u
  obtain ⟨n1, n2, n3⟩ := h.2.2.2.2.1
  exact ⟨h.below_r hg, h.2.1.kept hg (by simp; omega), h.2.2.1.kept hg (by simp; omega), h.2.2.2.1.set5 u, h.2.2.2.2⟩
theorem T3.setq0 (h : T3 w W p q r xp xq xr vp vq vr) (k : Int) : T3 w (W.setCell ⟨q, 0, none⟩ (.int .i64 k)) p q r xp ⟨k, xq.n, xq.late, xq.short, xq.how⟩ xr vp vq vr := by
  have hg := grown_set W ⟨q, 0, none⟩ (.int .i64 k)
  obtain ⟨n1, n2, n3⟩ := h.2.2.2.2.1
  exact ⟨h.below_q hg, h.2.1.kept hg (by simp; omega), h.2.2.1.set0 k, h.2.2.2.1.kept hg (by simp; omega), h.2.2.2.2⟩
end
theorem T3.new (w : World) {p q r : Nat} (hp : w.heap.size ≤ p ∧ p < w.heap.size + 3) (hq : w.heap.size ≤ q ∧ q < w.heap.size + 3) (hr : w.heap.size ≤ r ∧ r < w.heap.size + 3) (n1 : p ≠ q) (n2 : p ≠ r) (n3 : q ≠ r) :
    T3 w (((w.alloc (Tho ⟨0, 0, false, false, 0⟩ (.slice none 0 0))).alloc (Tho ⟨0, 0, false, false, 0⟩ (.slice none 0 0))).alloc (Tho ⟨0, 0, false, false, 0⟩ (.slice none 0 0))) p q r ⟨0, 0, false, false, 0⟩ ⟨0, 0, false, false, 0⟩ ⟨0, 0, false, false, 0⟩ (.slice none 0 0) (.slice none 0 0) (.slice none 0 0) := by
  have b : ∀ W : World, Below W.heap.size W (W.alloc (Tho ⟨0, 0, false, false, 0⟩ (.slice none 0 0))) := fun W => (Below.refl _ _).alloc (Nat.le_refl _) _
  have k : ∀ i, w.heap.size ≤ i ∧ i < w.heap.size + 3 → T6 (((w.alloc (Tho ⟨0, 0, false, false, 0⟩ (.slice none 0 0))).alloc (Tho ⟨0, 0, false, false, 0⟩ (.slice none 0 0))).alloc (Tho ⟨0, 0, false, false, 0⟩ (.slice none 0 0))) i ⟨0, 0, false, false, 0⟩ (.slice none 0 0) := by
    intro i ⟨h1, h2⟩
    have k0 := ((T6.new w).up (b _)).up (b _)
    have k1 := (T6.new (w.alloc (Tho ⟨0, 0, false, false, 0⟩ (.slice none 0 0)))).up (b _)
    have k2 := T6.new ((w.alloc (Tho ⟨0, 0, false, false, 0⟩ (.slice none 0 0))).alloc (Tho ⟨0, 0, false, false, 0⟩ (.slice none 0 0)))
    simp only [World.size_alloc] at k1 k2
    obtain rfl | rfl | rfl : i = w.heap.size ∨ i = w.heap.size + 1 ∨ i = w.heap.size + 1 + 1 := by omega
    · exact k0
    · exact k1
    · exact k2
  refine ⟨?_, k p hp, k q hq, k r hr, ⟨n1, n2, n3⟩, hp.1, hq.1, hr.1⟩
  exact (((Below.refl _ _).alloc (Nat.le_refl _) _).alloc (by simp) _).alloc (by simp; omega) _
def Bel (a b : World) : Prop := Below a.heap.size a b
/-- A slice's three parts. -/
structure Sl where
  A : Option Addr
  n : Nat
  c : Nat
abbrev slV (s : Sl) : Value := .slice s.A s.n s.c
theorem cutq_panic {T : Type} {F : T → Act} {K : T → World → Prop} {c} {a a' : Act} {w : World} (h : CutQ F K (.panic c) a w) : CutQ F K (.panic c) a' w := nomatch h.1
/-- The three throws, and the stones behind each. -/
def ApS (q : Nat) (u : Value) : Prop := ∀ A n c g o, u = .slice A n c → A = some ⟨g, o, none⟩ → g ≠ q
theorem apS {q n c : Nat} {A : Option Addr} (h : ∀ g o, A = some ⟨g, o, none⟩ → g ≠ q) : ApS q (.slice A n c) := fun A' n' c' g o e h' => h g o (by injection e with e1; rw [e1]; exact h')
def T3R (w W : World) (p q r : Nat) (xp xq xr : Th) (vp vq vr : Value) (m : List St) : Prop :=
  T3 w W p q r xp xq xr vp vq vr ∧ RowS W vp (m.map mirS) ∧ RowS W vq (m.map excS) ∧ RowS W vr m.reverse ∧ ApS q vp ∧ ApS q vq ∧ ApS q vr
section
variable {w W : World} {p q r : Nat} {xp xq xr : Th} {vp vq vr : Value} {m : List St}
theorem T3R.up {W' : World} (h : T3R w W p q r xp xq xr vp vq vr m) (hb : Below W.heap.size W W') : T3R w W' p q r xp xq xr vp vq vr m :=
  ⟨h.1.up hb, h.2.1.up hb, h.2.2.1.up hb, h.2.2.2.1.up hb, h.2.2.2.2⟩
theorem RowS.apart {v : Value} {l : List St} {W' : World} {q : Nat} (h : RowS W v l) (ha : ApS q v) (hg : W.grownBy W' (some q)) : RowS W' v l := by
  obtain ⟨A, c, rfl⟩ := h.form
  exact h.keptA hg (fun g o e => ha A _ c g o rfl e)
theorem T3R.setq0 (h : T3R w W p q r xp xq xr vp vq vr m) (k : Int) : T3R w (W.setCell ⟨q, 0, none⟩ (.int .i64 k)) p q r xp ⟨k, xq.n, xq.late, xq.short, xq.how⟩ xr vp vq vr m := by
  have hg := grown_set W ⟨q, 0, none⟩ (.int .i64 k)
  exact ⟨h.1.setq0 k, h.2.1.apart h.2.2.2.2.1 hg, h.2.2.1.apart h.2.2.2.2.2.1 hg, h.2.2.2.1.apart h.2.2.2.2.2.2 hg, h.2.2.2.2⟩
end
/-- What a ruling without an error leaves. -/
def JdC (r ch : Int) (P : List Pr) (w : World) (e : Ending) (w' : World) : Prop :=
  (∃ A n c, e = .returned (.tuple #[.agg #[.int .i64 r, .int .i64 ch, .slice A n c], .int .i64 0]) ∧ RulAt w' w.heap.size (.slice A n c) P) ∧ Below w.heap.size w w'
theorem jdC_of {c : Cd} {n : Int} {x : Th} {L M : List St} {r ch : Int} {P : List Pr} (h : juE c n x L M = 0 ∧ juR c n x L M = r ∧ juCh c n x L M = ch ∧ juP c n x L M = P) (v u : Value) (W : World) (hv : RowS W v L) (hu : RowS W u M) :
    Calls Try.prog 17 #[Cdv c, .int .i64 n, v, Thv x u] W (JdC r ch P W) := by
  refine (Judge_any c n x L M _ _ W hv hu).mono ?_
  rintro e w' ⟨⟨v', rfl, hv'⟩, hb⟩
  obtain ⟨h1, h2, h3, h4⟩ := h
  rw [h4] at hv'
  obtain ⟨A', c', rfl⟩ := hv'.form
  exact ⟨⟨A', _, c', by rw [h1, h2, h3], hv'⟩, hb⟩
theorem R3.all {w : World} {b : Nat} {r ch : Int} {v : Value} (h : R3 w b r ch v) (r' ch' : Int) (v' : Value) : R3 (w.setCells b 0 (r3C r' ch' v')) b r' ch' v' := by
  intro j hj
  refine ⟨?_, by rw [World.frozen?_setCells]; exact (h j hj).2⟩
  have hin := World.cell?_setCells_in b (r3C r' ch' v') 0 w (fun q hq => by
    have hq6 : q < 3 := hq
    rw [Nat.zero_add, (h q hq6).1]
    rcases q with _ | _ | _ | q
    all_goals first
      | rfl
      | omega) j hj
  rw [Nat.zero_add] at hin
  rw [hin]
  rcases j with _ | _ | _ | j
  all_goals first
    | rfl
    | (exfalso; omega)
end Go.Proofs.Ytomcpgdpjpjioaa

namespace Go.Proofs.Ytomcpgdpjpjioaa
open Go.RowKit Go.Proofs Go.Shelf
attribute [local go_sem] Oper.semAt_some

attribute [local irreducible] Go.wpOp Go.Region.wanted Go.yielded
theorem ddP_len (L : List Pr) : (ddP L).length ≤ L.length := by
  have H : ∀ (L A : List Pr), (L.foldl (fun out o => if (out.any fun p => samP p o) = true then out else out ++ [o]) A).length ≤ A.length + L.length := by
    intro L
    induction L with
    | nil => intro A; simp
    | cons o L ih =>
      intro A
      simp only [List.foldl_cons, List.length_cons]
      split
      · exact Nat.le_trans (ih A) (by omega)
      · exact Nat.le_trans (ih _) (by simp; omega)
  have := H L []
  simpa [ddP] using this
theorem juP_len (c : Cd) (n : Int) (x : Th) (l m : List St) : (juP c n x l m).length ≤ 3 := by
  unfold juP
  split
  · unfold judP
    split
    · simp
    split
    · simp
    split
    · exact Nat.le_trans (ddP_len _) (by simp)
    split
    · exact Nat.le_trans (ddP_len _) (by simp)
    split
    · exact Nat.le_trans (ddP_len _) (by simp)
    · simp
  · simp
set_option maxRecDepth 100000 in
set_option maxHeartbeats 8000000 in
theorem Sides_any (c : Cd) (n : Int) (x : Th) (l m : List St) (v u : Value) (w : World) (hv : RowS w v l) (hu : RowS w u m) (hl : l.length ≤ 20) (hm : m.length ≤ 20) : Calls Try.prog 6 #[Cdv c, .int .i64 n, v, Thv x u] w (Back (.bool true) w) := by
  have HV := Lib.hid hv
  have HU := Lib.hid hu
  obtain ⟨A, cap, rfl⟩ := hv.form
  obtain ⟨A2, cap2, rfl⟩ := hu.form
  have H16 : Hid (∀ W, Calls Try.prog 16 #[.slice A l.length cap, Thv x (.slice A2 m.length cap2)] W (Back (.bool false) W)) := fun W => by
    have := great16 A l.length cap x A2 m.length cap2 W
    rwa [decide_eq_false (by omega)] at this
  obtain ⟨r, hr⟩ : ∃ r, juR c n x l m = r := ⟨_, rfl⟩
  obtain ⟨ch, hch⟩ : ∃ r, juCh c n x l m = r := ⟨_, rfl⟩
  obtain ⟨E, hE⟩ : ∃ r, juE c n x l m = r := ⟨_, rfl⟩
  obtain ⟨P, hP⟩ : ∃ r, juP c n x l m = r := ⟨_, rfl⟩
  have H17 : Hid (∀ W, Below w.heap.size w W → Calls Try.prog 17 #[Cdv c, .int .i64 n, .slice A l.length cap, Thv x (.slice A2 m.length cap2)] W fun e w' => (∃ A n c, e = .returned (.tuple #[.agg #[.int .i64 r, .int .i64 ch, .slice A n c], .int .i64 E]) ∧ RulW w' (.slice A n c) P) ∧ Below W.heap.size W w') := fun W h => by
    refine (Judge_any c n x l m _ _ W (HV.out.up h) (HU.out.up h)).mono ?_
    rintro e w' ⟨⟨v', rfl, hv'⟩, hb⟩
    rw [hP] at hv'
    obtain ⟨A', c', rfl⟩ := hv'.form
    exact ⟨⟨A', _, c', by rw [hr, hch, hE], hv'.rulW⟩, hb⟩
  have K0 := Lib.hid (PaS.new w c x (.slice A2 m.length cap2))
  have HPL : Hid (E = 0 → (∀ s ∈ l, okSt s) ∧ (∀ s ∈ m, okSt s) ∧ (0 ≤ x.team ∧ x.team ≤ 1) ∧ (-1 ≤ ch ∧ ch ≤ 1) ∧ P.length ≤ 900 ∧ ∀ q ∈ P, q.1.length ≤ 900 ∧ ∀ s ∈ q.1, okSt s) := fun h => by
    have h0 : juE c n x l m = 0 := hE.trans h
    obtain ⟨-, ht, -⟩ := juE_zero h0
    obtain ⟨q1, q2, q3⟩ := thrB_facts ht
    have k := keep_plain h0
    refine ⟨((chk_iff l).1 q1).2.1, ((chk_iff m).1 q2).2.1, q3, by rw [← hch]; exact k.ch, ?_, ?_⟩
    · rw [← hP]; exact Nat.le_trans (juP_len c n x l m) (by omega)
    · rw [← hP]
      intro q hq
      have hc := (chk_iff _).1 (juP_chk h0 q hq)
      exact ⟨by omega, hc.2.1⟩
  have PL : Hid (E = 0 → (juE c n x (l.map mirS) (m.map mirS) = 0 ∧ juR c n x (l.map mirS) (m.map mirS) = r ∧ juCh c n x (l.map mirS) (m.map mirS) = chgR 0 ch ∧ juP c n x (l.map mirS) (m.map mirS) = chgP mirS P) ∧
      (juE c n ⟨1 - x.team, x.n, x.late, x.short, x.how⟩ (l.map excS) (m.map excS) = 0 ∧ juR c n ⟨1 - x.team, x.n, x.late, x.short, x.how⟩ (l.map excS) (m.map excS) = r ∧ juCh c n ⟨1 - x.team, x.n, x.late, x.short, x.how⟩ (l.map excS) (m.map excS) = chgR 1 ch ∧ juP c n ⟨1 - x.team, x.n, x.late, x.short, x.how⟩ (l.map excS) (m.map excS) = chgP excS P) ∧
      (juE c n x l.reverse m.reverse = 0 ∧ juR c n x l.reverse m.reverse = r ∧ juCh c n x l.reverse m.reverse = ch ∧ juP c n x l.reverse m.reverse = P)) := fun h => by
    have h0 : juE c n x l m = 0 := hE.trans h
    have a := mir_ruling h0
    have b := exc_ruling h0
    have d := ruling_perm h0 (List.reverse_perm l).symm (List.reverse_perm m).symm
    rw [hr, hch, hP] at a b d
    exact ⟨a, b, d⟩
  have H25 : Hid (∀ W (l : List St) (u : Value), RowS W u l → l.length ≤ 20 → (∀ s ∈ l, okSt s) → Calls Try.prog 25 #[u] W fun e w' => (∃ A n c, e = .returned (.slice A n c) ∧ RowS w' (.slice A n c) (l.map mirS) ∧ Hid (∀ g o, A = some ⟨g, o, none⟩ → W.heap.size ≤ g ∧ g < w'.heap.size)) ∧ Below W.heap.size W w') := fun W l u h1 h2 h3 => by
    refine (mirrored25 l u W h1 (by omega) h3).mono ?_
    rintro e w' ⟨⟨u, rfl, ho⟩, hb⟩
    obtain ⟨A, c, rfl, hA⟩ := own_form ho
    exact ⟨⟨A, _, c, rfl, RowS.of_own ho (by rw [List.length_map]; omega), hA⟩, hb⟩
  have H26 : Hid (∀ W (l : List St) (u : Value), RowS W u l → l.length ≤ 20 → (∀ s ∈ l, okSt s) → Calls Try.prog 26 #[u] W fun e w' => (∃ A n c, e = .returned (.slice A n c) ∧ RowS w' (.slice A n c) (l.map excS) ∧ Hid (∀ g o, A = some ⟨g, o, none⟩ → W.heap.size ≤ g ∧ g < w'.heap.size)) ∧ Below W.heap.size W w') := fun W l u h1 h2 h3 => by
    refine (exchanged26 l u W h1 (by omega) h3).mono ?_
    rintro e w' ⟨⟨u, rfl, ho⟩, hb⟩
    obtain ⟨A, c, rfl, hA⟩ := own_form ho
    exact ⟨⟨A, _, c, rfl, RowS.of_own ho (by rw [List.length_map]; omega), hA⟩, hb⟩
  have H27 : Hid (∀ W (l : List St) (u : Value), RowS W u l → l.length ≤ 20 → Calls Try.prog 27 #[u] W fun e w' => (∃ A n c, e = .returned (.slice A n c) ∧ RowS w' (.slice A n c) l.reverse ∧ Hid (∀ g o, A = some ⟨g, o, none⟩ → W.heap.size ≤ g ∧ g < w'.heap.size)) ∧ Below W.heap.size W w') := fun W l u h1 h2 => by
    refine (turned27 l u W h1 (by omega)).mono ?_
    rintro e w' ⟨⟨u, rfl, ho⟩, hb⟩
    obtain ⟨A, c, rfl, hA⟩ := own_form ho
    exact ⟨⟨A, _, c, rfl, RowS.of_own ho (by rw [List.length_reverse]; omega), hA⟩, hb⟩
  have HE := Lib.hid hE
  have HR := Lib.hid hr
  have HC := Lib.hid hch
  have HP := Lib.hid hP
  clear hv hu hr hch hE hP
  obtain ⟨x1, x2, x3, x4, x5⟩ := x
  obtain ⟨f, t, s, e, p⟩ := c
  go_enter Try.func6, Try.ntmps6
  go_upto_region 1 with fail
  generalize hwx : World.alloc (World.alloc w _) _ = wx
  have S : Hid (PaS w wx ⟨f, t, s, e, p⟩ ⟨x1, x2, x3, x4, x5⟩ (.slice A2 m.length cap2)) := by show PaS _ _ _ _ _; rw [← hwx]; exact K0.out
  clear hwx K0
  obtain ⟨-, ⟨a0, a1, a2, a3, a4⟩, c0, c1, c2, c3, c4, c5⟩ := S.out
  simp only at a0 a1 a2 a3 a4 c0 c1 c2 c3 c4
  go_upto_region 4 with (first
    | (go_at_call 16; (with_reducible refine (H16.out _).mono ?_); rintro e1 w1 ⟨rfl, hb1⟩; replace S := Lib.hid (S.out.up hb1); clear hb1 a0 a1 a2 a3 a4 c0 c1 c2 c3 c4 c5; obtain ⟨-, ⟨a0, a1, a2, a3, a4⟩, c0, c1, c2, c3, c4, c5⟩ := S.out; simp only at a0 a1 a2 a3 a4 c0 c1 c2 c3 c4)
    | (go_at_call 17; (with_reducible refine (H17.out _ (PaS.below S.out)).mono ?_); rintro e1 w2 ⟨⟨A5, n5, c5', rfl, hr5⟩, hb1⟩; have R5 := Lib.hid hr5; replace S := Lib.hid (S.out.up hb1); clear hr5 hb1 a0 a1 a2 a3 a4 c0 c1 c2 c3 c4 c5))
  generalize hwy : World.alloc w2 _ = wy
  have J1 : Hid (JdW wy w2.heap.size r ch (.slice A5 n5 c5') P) := by show JdW _ _ _ _ _ _; rw [← hwy]; exact JdW.new R5.out
  have hby : Below w2.heap.size w2 wy := by rw [← hwy]; exact (Below.refl _ _).alloc (Nat.le_refl _) _
  replace S := Lib.hid (S.out.up hby)
  obtain ⟨pa, hpa⟩ : ∃ p, w2.heap.size = p := ⟨_, rfl⟩
  rw [hpa] at J1
  rw [hpa]
  clear hwy hby hpa R5 H16 H17
  by_cases hE0 : E = 0
  · subst hE0
    obtain ⟨z1, z2, z3, z4, z5, z6⟩ := HPL.out (by trivial)
    obtain ⟨pm, pe, pr⟩ := PL.out (by trivial)
    have JM : Hid (∀ v u W, RowS W v (l.map mirS) → RowS W u (m.map mirS) → Calls Try.prog 17 #[Cdv ⟨f, t, s, e, p⟩, .int .i64 n, v, Thv ⟨x1, x2, x3, x4, x5⟩ u] W (JdC r (chgR 0 ch) (chgP mirS P) W)) := fun v u W => jdC_of pm v u W
    have JE : Hid (∀ v u W, RowS W v (l.map excS) → RowS W u (m.map excS) → Calls Try.prog 17 #[Cdv ⟨f, t, s, e, p⟩, .int .i64 n, v, Thv ⟨1 - x1, x2, x3, x4, x5⟩ u] W (JdC r (chgR 1 ch) (chgP excS P) W)) := fun v u W => jdC_of pe v u W
    have JT : Hid (∀ v u W, RowS W v l.reverse → RowS W u m.reverse → Calls Try.prog 17 #[Cdv ⟨f, t, s, e, p⟩, .int .i64 n, v, Thv ⟨x1, x2, x3, x4, x5⟩ u] W (JdC r ch P W)) := fun v u W => jdC_of pr v u W
    have HC0 : Hid (∀ v W, RulW W v P → Calls Try.prog 28 #[Rlv r ch v, .int .i64 0] W (ChC 0 mirS r ch P W)) := fun v W h => changed28 0 mirS (.inl ⟨rfl, rfl⟩) r ch v P W h z5 z6 z4
    have HC1 : Hid (∀ v W, RulW W v P → Calls Try.prog 28 #[Rlv r ch v, .int .i64 1] W (ChC 1 excS r ch P W)) := fun v W h => changed28 1 excS (.inr ⟨rfl, rfl⟩) r ch v P W h z5 z6 z4
    obtain ⟨ch1, hch1⟩ : ∃ k, chgR 0 ch = k := ⟨_, rfl⟩
    obtain ⟨ch2, hch2⟩ : ∃ k, chgR 1 ch = k := ⟨_, rfl⟩
    rw [hch1] at JM
    rw [hch2] at JE
    have HCH1 := Lib.hid hch1
    have HCH2 := Lib.hid hch2
    clear pm pe pr PL hch1 hch2
    have ZL := Lib.hid z1
    have ZM := Lib.hid z2
    clear z1 z2 z4 z5 z6 HPL HE HR HC HP
    go_upto_region 6 with fail
    have BD : Below wy.heap.size wy wy.drew := (Below.refl _ _).drew
    replace S := Lib.hid (S.out.up BD)
    replace J1 := Lib.hid (J1.out.up BD)
    clear BD
    refine wp_region_P (fun _ w' => Th6 w' (w.heap.size + 1) ⟨x1, x2, x3, x4, x5⟩ (.slice A2 m.length cap2)) (by kernel_rfl) ?_
    generalize hwd : wy.drew = wd
    rw [hwd] at S J1
    clear hwd
    have KT := S.out.2.2
    have hlo : w.heap.size + 1 < wd.heap.size := lt_cell KT.1
    refine wpAnyP_cut (T := Nat × Nat × Nat) (fun a t => ((((((((a.put (some 35) (.agg #[.int .i64 (x1), .int .i64 x2, .bool x3, .bool x4, .int .i64 x5, (.slice A2 m.length cap2)])).put (some 36) (.agg #[.int .i64 (x1), .int .i64 x2, .bool x3, .bool x4, .int .i64 x5, (.slice A2 m.length cap2)])).put (some 37) (.agg #[.int .i64 (x1), .int .i64 x2, .bool x3, .bool x4, .int .i64 x5, (.slice A2 m.length cap2)])).put (some 11) (ptr t.1)).put (some 12) (ptr t.2.1)).put (some 13) (ptr t.2.2)).put none undef).put none undef).put none undef) (fun t w' => T3 wd w' t.1 t.2.1 t.2.2 ⟨x1, x2, x3, x4, x5⟩ ⟨x1, x2, x3, x4, x5⟩ ⟨x1, x2, x3, x4, x5⟩ (.slice A2 m.length cap2) (.slice A2 m.length cap2) (.slice A2 m.length cap2)) ?_ ?_
    ·
      refine wpAnyP_take (i := 0) (v := (.agg #[.int .i64 (x1), .int .i64 x2, .bool x3, .bool x4, .int .i64 x5, (.slice A2 m.length cap2)])) rfl (by kernel_rfl) (by kernel_rfl) (by kernel_rfl) (fun _ _ _ h => cutq_panic h) (yieldsIf_run rfl (fun w' hS => ?_)) KT ?_
      · obtain ⟨z0, z1, z2, z3, z4, z5⟩ := hS
        simp only at z0 z1 z2 z3 z4 z5
        go_simp
      refine wpAnyP_take (i := 1) (v := (.agg #[.int .i64 (x1), .int .i64 x2, .bool x3, .bool x4, .int .i64 x5, (.slice A2 m.length cap2)])) rfl (by kernel_rfl) (by kernel_rfl) (by kernel_rfl) (fun _ _ _ h => cutq_panic h) (yieldsIf_run rfl (fun w' hS => ?_)) KT ?_
      · obtain ⟨z0, z1, z2, z3, z4, z5⟩ := hS
        simp only at z0 z1 z2 z3 z4 z5
        go_simp
      refine wpAnyP_take (i := 2) (v := (.agg #[.int .i64 (x1), .int .i64 x2, .bool x3, .bool x4, .int .i64 x5, (.slice A2 m.length cap2)])) rfl (by kernel_rfl) (by kernel_rfl) (by kernel_rfl) (fun _ _ _ h => cutq_panic h) (yieldsIf_run rfl (fun w' hS => ?_)) KT ?_
      · obtain ⟨z0, z1, z2, z3, z4, z5⟩ := hS
        simp only at z0 z1 z2 z3 z4 z5
        go_simp
      refine wpAnyP_allocs3 (i := 3) (j := 4) (k := 5) (di := 11) (dj := 12) (dk := 13) (o := Tho ⟨0, 0, false, false, 0⟩ (.slice none 0 0)) rfl rfl rfl rfl rfl rfl rfl rfl rfl (fun a w => by kernel_rfl) (fun a w => by kernel_rfl) (fun a w => by kernel_rfl)
        (by kernel_rfl) (by kernel_rfl) (by kernel_rfl) (by kernel_rfl) (by kernel_rfl) (by kernel_rfl) (by kernel_rfl) (by decide) (by decide) (by decide) (by decide) (by decide) (by decide) (fun _ w' h => h.up ((Below.refl _ _).alloc (Nat.le_refl _) _)) ?_
      intro p q rr n1 n2 n3 hp hq hr
      have T0 := T3.new wd hp hq hr n1 n2 n3
      generalize World.alloc (World.alloc (World.alloc wd _) _) _ = w6 at T0 ⊢
      obtain ⟨y0, y1, y2, y3, y4, y5, f0, f1, f2, f3, f4, f5⟩ := T0.2.1.cells
      refine wpAnyP_one (i := 6) (by kernel_rfl) (wpOp_skip (w' := w6.setCells p 0 (t6C ⟨x1, x2, x3, x4, x5⟩ (.slice A2 m.length cap2))) rfl rfl ?_ ⟨fun _ _ hS => hS.kept (grown_setCells p _ 0 _) (by simp; omega), ?_⟩)
      · unfold execOp
        go_simp
        rfl
      have T1 := T0.allp ⟨x1, x2, x3, x4, x5⟩ (.slice A2 m.length cap2)
      clear y0 y1 y2 y3 y4 y5 f0 f1 f2 f3 f4 f5
      generalize World.setCells w6 _ _ _ = w7 at T1 ⊢
      obtain ⟨y0, y1, y2, y3, y4, y5, f0, f1, f2, f3, f4, f5⟩ := T1.2.2.1.cells
      refine wpAnyP_one (i := 7) (by kernel_rfl) (wpOp_skip (w' := w7.setCells q 0 (t6C ⟨x1, x2, x3, x4, x5⟩ (.slice A2 m.length cap2))) rfl rfl ?_ ⟨fun _ _ hS => hS.kept (grown_setCells q _ 0 _) (by simp; omega), ?_⟩)
      · unfold execOp
        go_simp
        rfl
      have T2 := T1.allq ⟨x1, x2, x3, x4, x5⟩ (.slice A2 m.length cap2)
      clear y0 y1 y2 y3 y4 y5 f0 f1 f2 f3 f4 f5
      generalize World.setCells w7 _ _ _ = w8 at T2 ⊢
      obtain ⟨y0, y1, y2, y3, y4, y5, f0, f1, f2, f3, f4, f5⟩ := T2.2.2.2.1.cells
      refine wpAnyP_one (i := 8) (by kernel_rfl) (wpOp_skip (w' := w8.setCells rr 0 (t6C ⟨x1, x2, x3, x4, x5⟩ (.slice A2 m.length cap2))) rfl rfl ?_ ⟨fun _ _ hS => hS.kept (grown_setCells rr _ 0 _) (by simp; omega), ?_⟩)
      · unfold execOp
        go_simp
        rfl
      have T3' := T2.allr ⟨x1, x2, x3, x4, x5⟩ (.slice A2 m.length cap2)
      clear y0 y1 y2 y3 y4 y5 f0 f1 f2 f3 f4 f5
      generalize World.setCells w8 _ _ _ = w9 at T3' ⊢
      exact wpAnyP_done (by kernel_rfl) ⟨rfl, (p, q, rr), rfl, T3'⟩ _
    rintro ⟨p6, q6, r6⟩ w6 T6a
    simp only at T6a
    have TT := Lib.hid T6a
    have hlo2 := T6a.2.2.2.2.2
    clear T6a
    go_upto_region 7 with fail
    replace TT := Lib.hid (TT.out.drew)
    have hz6 := TT.out.1.size
    refine wp_region_P (fun _ w' => Th6 w' (w.heap.size + 1) ⟨x1, x2, x3, x4, x5⟩ (.slice A2 m.length cap2)) (by kernel_rfl) ?_
    generalize hwd : w6.drew = w7
    rw [hwd] at TT
    clear hwd
    have KT7 := KT.up TT.out.1
    refine wpAnyP_cut (T := Sl × Sl × Sl) (fun a t => ((((((((((((((a.put (some 38) (.pointer (some ⟨w.heap.size + 1, 5, none⟩))).put (some 39) (.slice A2 m.length cap2)).put (some 41) (.pointer (some ⟨w.heap.size + 1, 5, none⟩))).put (some 42) (.slice A2 m.length cap2)).put (some 44) (.pointer (some ⟨w.heap.size + 1, 5, none⟩))).put (some 45) (.slice A2 m.length cap2)).put (some 40) (slV t.1)).put (some 47) (.pointer (some ⟨p6, 5, none⟩))).put (some 43) (slV t.2.1)).put (some 46) (slV t.2.2)).put none undef).put (some 48) (.pointer (some ⟨q6, 5, none⟩))).put none undef).put (some 49) (.pointer (some ⟨r6, 5, none⟩))).put none undef)
      (fun t w' => T3R wd w' p6 q6 r6 ⟨x1, x2, x3, x4, x5⟩ ⟨x1, x2, x3, x4, x5⟩ ⟨x1, x2, x3, x4, x5⟩ (slV t.1) (slV t.2.1) (slV t.2.2) m) ?_ ?_
    ·
      refine wpAnyP_take (i := 0) (v := .pointer (some ⟨w.heap.size + 1, 5, none⟩)) rfl (by kernel_rfl) (by kernel_rfl) (by kernel_rfl) (fun _ _ _ h => cutq_panic h) (yieldsIf_run rfl (fun w' hS => ?_)) KT7 ?_
      · go_simp
      refine wpAnyP_take (i := 1) (v := (.slice A2 m.length cap2)) rfl (by kernel_rfl) (by kernel_rfl) (by kernel_rfl) (fun _ _ _ h => cutq_panic h) (yieldsIf_run rfl (fun w' hS => ?_)) KT7 ?_
      · obtain ⟨z0, z1, z2, z3, z4, z5⟩ := hS
        simp only at z0 z1 z2 z3 z4 z5
        go_simp
      refine wpAnyP_take (i := 3) (v := .pointer (some ⟨w.heap.size + 1, 5, none⟩)) rfl (by kernel_rfl) (by kernel_rfl) (by kernel_rfl) (fun _ _ _ h => cutq_panic h) (yieldsIf_run rfl (fun w' hS => ?_)) KT7 ?_
      · go_simp
      refine wpAnyP_take (i := 4) (v := (.slice A2 m.length cap2)) rfl (by kernel_rfl) (by kernel_rfl) (by kernel_rfl) (fun _ _ _ h => cutq_panic h) (yieldsIf_run rfl (fun w' hS => ?_)) KT7 ?_
      · obtain ⟨z0, z1, z2, z3, z4, z5⟩ := hS
        simp only at z0 z1 z2 z3 z4 z5
        go_simp
      refine wpAnyP_take (i := 6) (v := .pointer (some ⟨w.heap.size + 1, 5, none⟩)) rfl (by kernel_rfl) (by kernel_rfl) (by kernel_rfl) (fun _ _ _ h => cutq_panic h) (yieldsIf_run rfl (fun w' hS => ?_)) KT7 ?_
      · go_simp
      refine wpAnyP_take (i := 7) (v := (.slice A2 m.length cap2)) rfl (by kernel_rfl) (by kernel_rfl) (by kernel_rfl) (fun _ _ _ h => cutq_panic h) (yieldsIf_run rfl (fun w' hS => ?_)) KT7 ?_
      · obtain ⟨z0, z1, z2, z3, z4, z5⟩ := hS
        simp only at z0 z1 z2 z3 z4 z5
        go_simp
      have B7 := Below.refl w7.heap.size w7
      have hzz := TT.out.1.size
      refine wpAnyP_one (i := 2) (by kernel_rfl) (wpOp_call (f := 25) (args := #[(.slice A2 m.length cap2)]) rfl rfl (by kernel_rfl) ?_)
      refine (H25.out _ m _ ((HU.out.up S.out.1).up TT.out.1) (by omega) ZM.out).mono ?_
      rintro e1 w8 ⟨⟨A6, n6, c6, rfl, hr6, hA6⟩, hb8⟩
      refine ⟨_, rfl, fun _ _ hS => hS.up hb8, ?_⟩
      have T8 := TT.out.up hb8
      refine wpAnyP_take (i := 9) (v := .pointer (some ⟨p6, 5, none⟩)) rfl (by kernel_rfl) (by kernel_rfl) (by kernel_rfl) (fun _ _ _ h => cutq_panic h) (yieldsIf_run rfl (fun w' hS => ?_)) (KT.up T8.1) ?_
      · go_simp
      refine wpAnyP_one (i := 5) (by kernel_rfl) (wpOp_call (f := 26) (args := #[(.slice A2 m.length cap2)]) rfl rfl (by kernel_rfl) ?_)
      refine (H26.out _ m _ ((HU.out.up S.out.1).up T8.1) (by omega) ZM.out).mono ?_
      rintro e1 w9 ⟨⟨A7, n7, c7, rfl, hr7, hA7⟩, hb9⟩
      refine ⟨_, rfl, fun _ _ hS => hS.up hb9, ?_⟩
      have T9 := T8.up hb9
      refine wpAnyP_one (i := 8) (by kernel_rfl) (wpOp_call (f := 27) (args := #[(.slice A2 m.length cap2)]) rfl rfl (by kernel_rfl) ?_)
      refine (H27.out _ m _ ((HU.out.up S.out.1).up T9.1) (by omega)).mono ?_
      rintro e1 w10 ⟨⟨A8, n8, c8, rfl, hr8, hA8⟩, hb10⟩
      refine ⟨_, rfl, fun _ _ hS => hS.up hb10, ?_⟩
      have T10 := T9.up hb10
      have hs7 := TT.out.2.1.lt
      have hs7q := TT.out.2.2.1.lt
      have hs7r := TT.out.2.2.2.1.lt
      have hs8 := hb8.size
      have hs9 := hb9.size
      have RW := (⟨(hr6.up hb9).up hb10, hr7.up hb10, hr8⟩ : RowS w10 (.slice A6 n6 c6) (m.map mirS) ∧ RowS w10 (.slice A7 n7 c7) (m.map excS) ∧ RowS w10 (.slice A8 n8 c8) m.reverse)
      have HA : ∀ k, k < w7.heap.size → (∀ g o, A6 = some ⟨g, o, none⟩ → g ≠ k) ∧ (∀ g o, A7 = some ⟨g, o, none⟩ → g ≠ k) ∧ (∀ g o, A8 = some ⟨g, o, none⟩ → g ≠ k) := fun k hk =>
        ⟨fun g o h => by have := hA6.out g o h; omega, fun g o h => by have := hA7.out g o h; omega, fun g o h => by have := hA8.out g o h; omega⟩
      clear hr6 hr7 hr8 hA6 hA7 hA8
      obtain ⟨y0, y1, y2, y3, y4, y5, f0, f1, f2, f3, f4, f5⟩ := T10.2.1.cells
      refine wpAnyP_one (i := 10) (by kernel_rfl) (wpOp_skip (w' := w10.setCell ⟨p6, 5, none⟩ (.slice A6 n6 c6)) rfl rfl ?_ ⟨fun _ _ hS => hS.kept (grown_set w10 ⟨p6, 5, none⟩ (.slice A6 n6 c6)) (by simp; omega), ?_⟩)
      · unfold execOp
        go_simp
      have T11 := T10.setp5 (.slice A6 n6 c6)
      have RW11 : _ ∧ _ ∧ _ := ⟨RW.1.keptA (grown_set w10 ⟨p6, 5, none⟩ (.slice A6 n6 c6)) (HA p6 (by omega)).1, RW.2.1.keptA (grown_set w10 ⟨p6, 5, none⟩ (.slice A6 n6 c6)) (HA p6 (by omega)).2.1, RW.2.2.keptA (grown_set w10 ⟨p6, 5, none⟩ (.slice A6 n6 c6)) (HA p6 (by omega)).2.2⟩
      clear y0 y1 y2 y3 y4 y5 f0 f1 f2 f3 f4 f5
      generalize World.setCell w10 _ _ = w11 at T11 RW11 ⊢
      refine wpAnyP_take (i := 11) (v := .pointer (some ⟨q6, 5, none⟩)) rfl (by kernel_rfl) (by kernel_rfl) (by kernel_rfl) (fun _ _ _ h => cutq_panic h) (yieldsIf_run rfl (fun w' hS => ?_)) (KT.up T11.1) ?_
      · go_simp
      obtain ⟨y0, y1, y2, y3, y4, y5, f0, f1, f2, f3, f4, f5⟩ := T11.2.2.1.cells
      refine wpAnyP_one (i := 12) (by kernel_rfl) (wpOp_skip (w' := w11.setCell ⟨q6, 5, none⟩ (.slice A7 n7 c7)) rfl rfl ?_ ⟨fun _ _ hS => hS.kept (grown_set w11 ⟨q6, 5, none⟩ (.slice A7 n7 c7)) (by simp; omega), ?_⟩)
      · unfold execOp
        go_simp
      have T12 := T11.setq5 (.slice A7 n7 c7)
      have RW12 : _ ∧ _ ∧ _ := ⟨RW11.1.keptA (grown_set w11 ⟨q6, 5, none⟩ (.slice A7 n7 c7)) (HA q6 (by omega)).1, RW11.2.1.keptA (grown_set w11 ⟨q6, 5, none⟩ (.slice A7 n7 c7)) (HA q6 (by omega)).2.1, RW11.2.2.keptA (grown_set w11 ⟨q6, 5, none⟩ (.slice A7 n7 c7)) (HA q6 (by omega)).2.2⟩
      clear y0 y1 y2 y3 y4 y5 f0 f1 f2 f3 f4 f5
      generalize World.setCell w11 _ _ = w12 at T12 RW12 ⊢
      refine wpAnyP_take (i := 13) (v := .pointer (some ⟨r6, 5, none⟩)) rfl (by kernel_rfl) (by kernel_rfl) (by kernel_rfl) (fun _ _ _ h => cutq_panic h) (yieldsIf_run rfl (fun w' hS => ?_)) (KT.up T12.1) ?_
      · go_simp
      obtain ⟨y0, y1, y2, y3, y4, y5, f0, f1, f2, f3, f4, f5⟩ := T12.2.2.2.1.cells
      refine wpAnyP_one (i := 14) (by kernel_rfl) (wpOp_skip (w' := w12.setCell ⟨r6, 5, none⟩ (.slice A8 n8 c8)) rfl rfl ?_ ⟨fun _ _ hS => hS.kept (grown_set w12 ⟨r6, 5, none⟩ (.slice A8 n8 c8)) (by simp; omega), ?_⟩)
      · unfold execOp
        go_simp
      have T13 := T12.setr5 (.slice A8 n8 c8)
      have RW13 : _ ∧ _ ∧ _ := ⟨RW12.1.keptA (grown_set w12 ⟨r6, 5, none⟩ (.slice A8 n8 c8)) (HA r6 (by omega)).1, RW12.2.1.keptA (grown_set w12 ⟨r6, 5, none⟩ (.slice A8 n8 c8)) (HA r6 (by omega)).2.1, RW12.2.2.keptA (grown_set w12 ⟨r6, 5, none⟩ (.slice A8 n8 c8)) (HA r6 (by omega)).2.2⟩
      clear y0 y1 y2 y3 y4 y5 f0 f1 f2 f3 f4 f5
      generalize World.setCell w12 _ _ = w13 at T13 RW13 ⊢
      exact wpAnyP_done (by kernel_rfl) ⟨rfl, (⟨A6, n6, c6⟩, ⟨A7, n7, c7⟩, ⟨A8, n8, c8⟩), rfl, T13, RW13.1, RW13.2.1, RW13.2.2, apS (HA q6 hs7q).1, apS (HA q6 hs7q).2.1, apS (HA q6 hs7q).2.2⟩ _
    rintro ⟨⟨A6, n6, c6⟩, ⟨A7, n7, c7⟩, ⟨A8, n8, c8⟩⟩ w8 T8
    simp only [slV] at T8
    replace TT := Lib.hid T8
    clear T8 KT7 hz6
    have KT8 := KT.up TT.out.1.1
    obtain ⟨k0, k1⟩ := KT8
    obtain ⟨y0, y1, y2, y3, y4, y5, f0, f1, f2, f3, f4, f5⟩ := TT.out.1.2.2.1.cells
    simp only at k0 y0
    clear k1 y1 y2 y3 y4 y5 f1 f2 f3 f4 f5
    go_upto_region 9 with fail
    generalize hw9 : World.setCell w8 _ _ = w9
    replace TT : Hid (T3R wd w9 p6 q6 r6 ⟨x1, x2, x3, x4, x5⟩ ⟨1 - x1, x2, x3, x4, x5⟩ ⟨x1, x2, x3, x4, x5⟩ (.slice A6 n6 c6) (.slice A7 n7 c7) (.slice A8 n8 c8) m) := by show T3R _ _ _ _ _ _ _ _ _ _ _ _; rw [← hw9]; exact TT.out.setq0 (1 - x1)
    clear hw9 k0 y0 f0
    replace J1 := Lib.hid (J1.out.up TT.out.1.1)
    replace TT := Lib.hid (TT.out.up (Below.refl _ _).drew)
    replace J1 := Lib.hid (J1.out.up (Below.refl _ _).drew)
    refine wp_region_P (fun _ w' => Cd5 w' w.heap.size ⟨f, t, s, e, p⟩ ∧ Th6 w' p6 ⟨x1, x2, x3, x4, x5⟩ (.slice A6 n6 c6)) (by kernel_rfl) ?_
    generalize hwd : w9.drew = wB
    rw [hwd] at TT J1
    clear hwd
    have KS := (⟨S.out.2.1.up TT.out.1.1, TT.out.1.2.1.th⟩ : Cd5 wB w.heap.size ⟨f, t, s, e, p⟩ ∧ Th6 wB p6 ⟨x1, x2, x3, x4, x5⟩ (.slice A6 n6 c6))
    have hbk := TT.out.1.2.1.lt
    have hwz := TT.out.1.1.size
    refine wpAnyP_cut (T := Nat × Sl × Sl) (fun a tq => (((((((((((a.put (some 55) (.agg #[.int .i64 f, .int .i64 t, .int .i64 s, .int .i64 e, .bool p])).put (some 56) (.int .i64 n)).put (some 57) (.slice A l.length cap)).put (some 59) (.agg #[.int .i64 (x1), .int .i64 x2, .bool x3, .bool x4, .int .i64 x5, (.slice A6 n6 c6)])).put (some 58) (slV tq.2.2)).put (some 60) (.tuple #[.agg #[.int .i64 r, .int .i64 ch1, slV tq.2.1], .int .i64 0])).put (some 54) (.tuple #[.agg #[.int .i64 r, .int .i64 ch1, slV tq.2.1], .int .i64 0])).put (some 61) (.agg #[.int .i64 r, .int .i64 ch1, slV tq.2.1])).put (some 14) (ptr tq.1)).put (some 62) (.int .i64 0)).put (some 15) (.int .i64 0)))
      (fun tq w' => Bel wB w' ∧ JdW w' tq.1 r ch1 (slV tq.2.1) (chgP mirS P)) ?_ ?_
    ·
      refine wpAnyP_take (i := 0) (v := (.agg #[.int .i64 f, .int .i64 t, .int .i64 s, .int .i64 e, .bool p])) rfl (by kernel_rfl) (by kernel_rfl) (by kernel_rfl) (fun _ _ _ h => cutq_panic h) (yieldsIf_run rfl (fun w' hS => ?_)) KS ?_
      · obtain ⟨⟨z0, z1, z2, z3, z4⟩, -⟩ := hS
        simp only at z0 z1 z2 z3 z4
        go_simp
      refine wpAnyP_take (i := 1) (v := .int .i64 n) rfl (by kernel_rfl) (by kernel_rfl) (by kernel_rfl) (fun _ _ _ h => cutq_panic h) (yieldsIf_run rfl (fun w' hS => ?_)) KS ?_
      · go_simp
      refine wpAnyP_take (i := 2) (v := (.slice A l.length cap)) rfl (by kernel_rfl) (by kernel_rfl) (by kernel_rfl) (fun _ _ _ h => cutq_panic h) (yieldsIf_run rfl (fun w' hS => ?_)) KS ?_
      · go_simp
      refine wpAnyP_take (i := 4) (v := (.agg #[.int .i64 (x1), .int .i64 x2, .bool x3, .bool x4, .int .i64 x5, (.slice A6 n6 c6)])) rfl (by kernel_rfl) (by kernel_rfl) (by kernel_rfl) (fun _ _ _ h => cutq_panic h) (yieldsIf_run rfl (fun w' hS => ?_)) KS ?_
      · obtain ⟨-, z0, z1, z2, z3, z4, z5⟩ := hS
        simp only at z0 z1 z2 z3 z4 z5
        go_simp
      have bb0 := Below.refl wB.heap.size wB
      refine wpAnyP_two (i := 3) (j := 9) (by kernel_rfl) ?_ ?_
      ·
        refine wpOp_call (f := 25) (args := #[(.slice A l.length cap)]) rfl rfl (by kernel_rfl) ?_
        refine (H25.out _ l _ ((HV.out.up S.out.1).up (TT.out.1.1.trans (bb0.mono hwz))) (by omega) ZL.out).mono ?_
        rintro e1 wa1 ⟨⟨A3, n3, c3, rfl, hr3, -⟩, hb1⟩
        refine ⟨_, rfl, fun _ _ hS => ⟨hS.1.up hb1, hS.2.up hb1⟩, ?_⟩
        have bb1 := bb0.trans (hb1.mono bb0.size)
        refine wpAnyP_two (i := 5) (j := 9) (by kernel_rfl) ?_ ?_
        ·
          refine wpOp_call (f := 17) (args := #[(.agg #[.int .i64 f, .int .i64 t, .int .i64 s, .int .i64 e, .bool p]), .int .i64 n, .slice A3 n3 c3, (.agg #[.int .i64 (x1), .int .i64 x2, .bool x3, .bool x4, .int .i64 x5, (.slice A6 n6 c6)])]) rfl rfl (by kernel_rfl) ?_
          refine (JM.out (.slice A3 n3 c3) (.slice A6 n6 c6) _ (hr3) (TT.out.2.1.up bb1)).mono ?_
          rintro e2 wa2 ⟨⟨A4, n4, c4, rfl, hru⟩, hb2⟩
          refine ⟨_, rfl, fun _ _ hS => ⟨hS.1.up hb2, hS.2.up hb2⟩, ?_⟩
          have bb2 := bb1.trans (hb2.mono bb1.size)
          refine wpAnyP_take (i := 6) (v := (.tuple #[.agg #[.int .i64 r, .int .i64 ch1, .slice A4 n4 c4], .int .i64 0])) rfl (by kernel_rfl) (by kernel_rfl) (by kernel_rfl) (fun _ _ _ h => cutq_panic h) (yieldsIf_run rfl (fun w' hS => ?_)) ⟨KS.1.up bb2, KS.2.up bb2⟩ ?_
          · go_simp
          refine wpAnyP_take (i := 7) (v := .agg #[.int .i64 r, .int .i64 ch1, .slice A4 n4 c4]) rfl (by kernel_rfl) (by kernel_rfl) (by kernel_rfl) (fun _ _ _ h => cutq_panic h) (yieldsIf_run rfl (fun w' hS => ?_)) ⟨KS.1.up bb2, KS.2.up bb2⟩ ?_
          · go_simp
          refine wpAnyP_take (i := 8) (v := .int .i64 0) rfl (by kernel_rfl) (by kernel_rfl) (by kernel_rfl) (fun _ _ _ h => cutq_panic h) (yieldsIf_run rfl (fun w' hS => ?_)) ⟨KS.1.up bb2, KS.2.up bb2⟩ ?_
          · go_simp
          refine wpAnyP_one (i := 9) (by kernel_rfl) (wpOp_run (v := ptr wa2.heap.size) (w' := World.alloc wa2 (.cells #[.int .i64 0, .int .i64 0, .slice none 0 0] 40)) rfl rfl (by kernel_rfl) ?_)
          have hb3 := (Below.refl wa2.heap.size wa2).alloc (Nat.le_refl _) (.cells #[.int .i64 0, .int .i64 0, .slice none 0 0] 40)
          have Q3 := R3.new wa2 0 0 (.slice none 0 0)
          have bb3 := bb2.trans (hb3.mono bb2.size)
          have hB3 : wB.heap.size ≤ wa2.heap.size := bb2.size
          refine ⟨fun _ _ hS => ⟨hS.1.up hb3, hS.2.up hb3⟩, ?_⟩
          generalize World.alloc wa2 _ = wa3 at hb3 Q3 bb3 ⊢
          obtain ⟨bq, hbq⟩ : ∃ q, wa2.heap.size = q := ⟨_, rfl⟩
          rw [hbq] at Q3 hB3 ⊢
          obtain ⟨⟨y0, y1, y2⟩, f0, f1, f2⟩ := Q3.cells
          have hg := grown_setCells bq (r3C r ch1 (.slice A4 n4 c4)) 0 wa3
          refine wpAnyP_one (i := 10) (by kernel_rfl) (wpOp_skip (w' := wa3.setCells bq 0 (r3C r ch1 (.slice A4 n4 c4))) rfl rfl ?_ ⟨fun _ _ hS => ⟨hS.1.kept hg (by simp; omega), hS.2.kept hg (by simp; omega)⟩, ?_⟩)
          · unfold execOp
            go_simp
            rfl
          have bbF := bb3.grown hg bb3.size (fun j e => by injection e with e; omega)
          have JF : JdW (wa3.setCells bq 0 (r3C r ch1 (.slice A4 n4 c4))) bq r ch1 (.slice A4 n4 c4) (chgP mirS P) := ⟨Q3.all _ _ _, hru.rulW.up (hb3.grown hg hb3.size (fun j e => by injection e with e; omega))⟩
          clear y0 y1 y2 f0 f1 f2
          generalize World.setCells wa3 _ _ _ = wF at bbF JF ⊢
          refine wpAnyP_take (i := 11) (v := .int .i64 0) rfl (by kernel_rfl) (by kernel_rfl) (by kernel_rfl) (fun _ _ _ h => cutq_panic h) (yieldsIf_run rfl (fun w' hS => ?_)) ⟨KS.1.up bbF, KS.2.up bbF⟩ ?_
          · go_simp
          exact wpAnyP_done (by kernel_rfl) ⟨rfl, (bq, ⟨A4, n4, c4⟩, ⟨A3, n3, c3⟩), by kernel_rfl, bbF, JF⟩ _
        ·
          refine wpOp_run (v := ptr wa1.heap.size) (w' := World.alloc wa1 (.cells #[.int .i64 0, .int .i64 0, .slice none 0 0] 40)) rfl rfl (by kernel_rfl) ?_
          have hb2 := (Below.refl wa1.heap.size wa1).alloc (Nat.le_refl _) (.cells #[.int .i64 0, .int .i64 0, .slice none 0 0] 40)
          have Q3 := R3.new wa1 0 0 (.slice none 0 0)
          have bb2 := bb1.trans (hb2.mono bb1.size)
          have hB3 : wB.heap.size ≤ wa1.heap.size := bb1.size
          refine ⟨fun _ _ hS => ⟨hS.1.up hb2, hS.2.up hb2⟩, ?_⟩
          generalize World.alloc wa1 _ = wa2 at hb2 Q3 bb2 ⊢
          obtain ⟨bq, hbq⟩ : ∃ q, wa1.heap.size = q := ⟨_, rfl⟩
          rw [hbq] at Q3 hB3 ⊢
          refine wpAnyP_one (i := 5) (by kernel_rfl) (wpOp_call (f := 17) (args := #[(.agg #[.int .i64 f, .int .i64 t, .int .i64 s, .int .i64 e, .bool p]), .int .i64 n, .slice A3 n3 c3, (.agg #[.int .i64 (x1), .int .i64 x2, .bool x3, .bool x4, .int .i64 x5, (.slice A6 n6 c6)])]) rfl rfl (by kernel_rfl) ?_)
          refine (JM.out (.slice A3 n3 c3) (.slice A6 n6 c6) _ (hr3.up hb2) (TT.out.2.1.up bb2)).mono ?_
          rintro e2 wa3 ⟨⟨A4, n4, c4, rfl, hru⟩, hb3⟩
          refine ⟨_, rfl, fun _ _ hS => ⟨hS.1.up hb3, hS.2.up hb3⟩, ?_⟩
          have bb3 := bb2.trans (hb3.mono bb2.size)
          have hlt := Q3.lt
          replace Q3 := Q3.up hb3
          refine wpAnyP_take (i := 6) (v := (.tuple #[.agg #[.int .i64 r, .int .i64 ch1, .slice A4 n4 c4], .int .i64 0])) rfl (by kernel_rfl) (by kernel_rfl) (by kernel_rfl) (fun _ _ _ h => cutq_panic h) (yieldsIf_run rfl (fun w' hS => ?_)) ⟨KS.1.up bb3, KS.2.up bb3⟩ ?_
          · go_simp
          refine wpAnyP_take (i := 7) (v := .agg #[.int .i64 r, .int .i64 ch1, .slice A4 n4 c4]) rfl (by kernel_rfl) (by kernel_rfl) (by kernel_rfl) (fun _ _ _ h => cutq_panic h) (yieldsIf_run rfl (fun w' hS => ?_)) ⟨KS.1.up bb3, KS.2.up bb3⟩ ?_
          · go_simp
          refine wpAnyP_take (i := 8) (v := .int .i64 0) rfl (by kernel_rfl) (by kernel_rfl) (by kernel_rfl) (fun _ _ _ h => cutq_panic h) (yieldsIf_run rfl (fun w' hS => ?_)) ⟨KS.1.up bb3, KS.2.up bb3⟩ ?_
          · go_simp
          obtain ⟨⟨y0, y1, y2⟩, f0, f1, f2⟩ := Q3.cells
          have hg := grown_setCells bq (r3C r ch1 (.slice A4 n4 c4)) 0 wa3
          refine wpAnyP_one (i := 10) (by kernel_rfl) (wpOp_skip (w' := wa3.setCells bq 0 (r3C r ch1 (.slice A4 n4 c4))) rfl rfl ?_ ⟨fun _ _ hS => ⟨hS.1.kept hg (by simp; omega), hS.2.kept hg (by simp; omega)⟩, ?_⟩)
          · unfold execOp
            go_simp
            rfl
          have bbF := bb3.grown hg bb3.size (fun j e => by injection e with e; omega)
          have JF : JdW (wa3.setCells bq 0 (r3C r ch1 (.slice A4 n4 c4))) bq r ch1 (.slice A4 n4 c4) (chgP mirS P) := ⟨Q3.all _ _ _, (hru.kept hg hlt).rulW⟩
          clear y0 y1 y2 f0 f1 f2
          generalize World.setCells wa3 _ _ _ = wF at bbF JF ⊢
          refine wpAnyP_take (i := 11) (v := .int .i64 0) rfl (by kernel_rfl) (by kernel_rfl) (by kernel_rfl) (fun _ _ _ h => cutq_panic h) (yieldsIf_run rfl (fun w' hS => ?_)) ⟨KS.1.up bbF, KS.2.up bbF⟩ ?_
          · go_simp
          exact wpAnyP_done (by kernel_rfl) ⟨rfl, (bq, ⟨A4, n4, c4⟩, ⟨A3, n3, c3⟩), by kernel_rfl, bbF, JF⟩ _
      ·
        refine wpOp_run (v := ptr wB.heap.size) (w' := World.alloc wB (.cells #[.int .i64 0, .int .i64 0, .slice none 0 0] 40)) rfl rfl (by kernel_rfl) ?_
        have hb1 := (Below.refl wB.heap.size wB).alloc (Nat.le_refl _) (.cells #[.int .i64 0, .int .i64 0, .slice none 0 0] 40)
        have Q3 := R3.new wB 0 0 (.slice none 0 0)
        have bb1 := bb0.trans (hb1.mono bb0.size)
        have hB3 : wB.heap.size ≤ wB.heap.size := bb0.size
        refine ⟨fun _ _ hS => ⟨hS.1.up hb1, hS.2.up hb1⟩, ?_⟩
        generalize World.alloc wB _ = wa1 at hb1 Q3 bb1 ⊢
        obtain ⟨bq, hbq⟩ : ∃ q, wB.heap.size = q := ⟨_, rfl⟩
        rw [hbq] at Q3 hB3 ⊢
        refine wpAnyP_one (i := 3) (by kernel_rfl) (wpOp_call (f := 25) (args := #[(.slice A l.length cap)]) rfl rfl (by kernel_rfl) ?_)
        refine (H25.out _ l _ ((HV.out.up S.out.1).up (TT.out.1.1.trans (bb1.mono hwz))) (by omega) ZL.out).mono ?_
        rintro e1 wa2 ⟨⟨A3, n3, c3, rfl, hr3, -⟩, hb2⟩
        refine ⟨_, rfl, fun _ _ hS => ⟨hS.1.up hb2, hS.2.up hb2⟩, ?_⟩
        have bb2 := bb1.trans (hb2.mono bb1.size)
        replace Q3 := Q3.up hb2
        refine wpAnyP_one (i := 5) (by kernel_rfl) (wpOp_call (f := 17) (args := #[(.agg #[.int .i64 f, .int .i64 t, .int .i64 s, .int .i64 e, .bool p]), .int .i64 n, .slice A3 n3 c3, (.agg #[.int .i64 (x1), .int .i64 x2, .bool x3, .bool x4, .int .i64 x5, (.slice A6 n6 c6)])]) rfl rfl (by kernel_rfl) ?_)
        refine (JM.out (.slice A3 n3 c3) (.slice A6 n6 c6) _ (hr3) (TT.out.2.1.up bb2)).mono ?_
        rintro e2 wa3 ⟨⟨A4, n4, c4, rfl, hru⟩, hb3⟩
        refine ⟨_, rfl, fun _ _ hS => ⟨hS.1.up hb3, hS.2.up hb3⟩, ?_⟩
        have bb3 := bb2.trans (hb3.mono bb2.size)
        have hlt := Q3.lt
        replace Q3 := Q3.up hb3
        refine wpAnyP_take (i := 6) (v := (.tuple #[.agg #[.int .i64 r, .int .i64 ch1, .slice A4 n4 c4], .int .i64 0])) rfl (by kernel_rfl) (by kernel_rfl) (by kernel_rfl) (fun _ _ _ h => cutq_panic h) (yieldsIf_run rfl (fun w' hS => ?_)) ⟨KS.1.up bb3, KS.2.up bb3⟩ ?_
        · go_simp
        refine wpAnyP_take (i := 7) (v := .agg #[.int .i64 r, .int .i64 ch1, .slice A4 n4 c4]) rfl (by kernel_rfl) (by kernel_rfl) (by kernel_rfl) (fun _ _ _ h => cutq_panic h) (yieldsIf_run rfl (fun w' hS => ?_)) ⟨KS.1.up bb3, KS.2.up bb3⟩ ?_
        · go_simp
        refine wpAnyP_take (i := 8) (v := .int .i64 0) rfl (by kernel_rfl) (by kernel_rfl) (by kernel_rfl) (fun _ _ _ h => cutq_panic h) (yieldsIf_run rfl (fun w' hS => ?_)) ⟨KS.1.up bb3, KS.2.up bb3⟩ ?_
        · go_simp
        obtain ⟨⟨y0, y1, y2⟩, f0, f1, f2⟩ := Q3.cells
        have hg := grown_setCells bq (r3C r ch1 (.slice A4 n4 c4)) 0 wa3
        refine wpAnyP_one (i := 10) (by kernel_rfl) (wpOp_skip (w' := wa3.setCells bq 0 (r3C r ch1 (.slice A4 n4 c4))) rfl rfl ?_ ⟨fun _ _ hS => ⟨hS.1.kept hg (by simp; omega), hS.2.kept hg (by simp; omega)⟩, ?_⟩)
        · unfold execOp
          go_simp
          rfl
        have bbF := bb3.grown hg bb3.size (fun j e => by injection e with e; omega)
        have JF : JdW (wa3.setCells bq 0 (r3C r ch1 (.slice A4 n4 c4))) bq r ch1 (.slice A4 n4 c4) (chgP mirS P) := ⟨Q3.all _ _ _, (hru.kept hg hlt).rulW⟩
        clear y0 y1 y2 f0 f1 f2
        generalize World.setCells wa3 _ _ _ = wF at bbF JF ⊢
        refine wpAnyP_take (i := 11) (v := .int .i64 0) rfl (by kernel_rfl) (by kernel_rfl) (by kernel_rfl) (fun _ _ _ h => cutq_panic h) (yieldsIf_run rfl (fun w' hS => ?_)) ⟨KS.1.up bbF, KS.2.up bbF⟩ ?_
        · go_simp
        exact wpAnyP_done (by kernel_rfl) ⟨rfl, (bq, ⟨A4, n4, c4⟩, ⟨A3, n3, c3⟩), by kernel_rfl, bbF, JF⟩ _
    rintro ⟨J2b, ⟨J2A, J2n, J2c⟩, ⟨A3, n3, c3⟩⟩ wC ⟨bbF, JF⟩
    simp only [slV] at JF
    have J2 := Lib.hid JF
    replace TT := Lib.hid (TT.out.up bbF)
    replace J1 := Lib.hid (J1.out.up bbF)
    clear JF bbF KS hbk hwz
    go_upto_region 10 with fail
    replace TT := Lib.hid (TT.out.up (Below.refl _ _).drew)
    replace J1 := Lib.hid (J1.out.up (Below.refl _ _).drew)
    replace J2 := Lib.hid (J2.out.up (Below.refl _ _).drew)
    refine wp_region_P (fun _ w' => Cd5 w' w.heap.size ⟨f, t, s, e, p⟩ ∧ Th6 w' q6 ⟨1 - x1, x2, x3, x4, x5⟩ (.slice A7 n7 c7)) (by kernel_rfl) ?_
    generalize hwd : wC.drew = wD
    rw [hwd] at TT J1 J2
    clear hwd
    have KS := (⟨S.out.2.1.up TT.out.1.1, TT.out.1.2.2.1.th⟩ : Cd5 wD w.heap.size ⟨f, t, s, e, p⟩ ∧ Th6 wD q6 ⟨1 - x1, x2, x3, x4, x5⟩ (.slice A7 n7 c7))
    have hbk := TT.out.1.2.2.1.lt
    have hwz := TT.out.1.1.size
    refine wpAnyP_cut (T := Nat × Sl × Sl) (fun a tq => (((((((((((a.put (some 64) (.agg #[.int .i64 f, .int .i64 t, .int .i64 s, .int .i64 e, .bool p])).put (some 65) (.int .i64 n)).put (some 66) (.slice A l.length cap)).put (some 68) (.agg #[.int .i64 (1 - x1), .int .i64 x2, .bool x3, .bool x4, .int .i64 x5, (.slice A7 n7 c7)])).put (some 67) (slV tq.2.2)).put (some 69) (.tuple #[.agg #[.int .i64 r, .int .i64 ch2, slV tq.2.1], .int .i64 0])).put (some 63) (.tuple #[.agg #[.int .i64 r, .int .i64 ch2, slV tq.2.1], .int .i64 0])).put (some 70) (.agg #[.int .i64 r, .int .i64 ch2, slV tq.2.1])).put (some 16) (ptr tq.1)).put (some 71) (.int .i64 0)).put (some 17) (.int .i64 0)))
      (fun tq w' => Bel wD w' ∧ JdW w' tq.1 r ch2 (slV tq.2.1) (chgP excS P)) ?_ ?_
    ·
      refine wpAnyP_take (i := 0) (v := (.agg #[.int .i64 f, .int .i64 t, .int .i64 s, .int .i64 e, .bool p])) rfl (by kernel_rfl) (by kernel_rfl) (by kernel_rfl) (fun _ _ _ h => cutq_panic h) (yieldsIf_run rfl (fun w' hS => ?_)) KS ?_
      · obtain ⟨⟨z0, z1, z2, z3, z4⟩, -⟩ := hS
        simp only at z0 z1 z2 z3 z4
        go_simp
      refine wpAnyP_take (i := 1) (v := .int .i64 n) rfl (by kernel_rfl) (by kernel_rfl) (by kernel_rfl) (fun _ _ _ h => cutq_panic h) (yieldsIf_run rfl (fun w' hS => ?_)) KS ?_
      · go_simp
      refine wpAnyP_take (i := 2) (v := (.slice A l.length cap)) rfl (by kernel_rfl) (by kernel_rfl) (by kernel_rfl) (fun _ _ _ h => cutq_panic h) (yieldsIf_run rfl (fun w' hS => ?_)) KS ?_
      · go_simp
      refine wpAnyP_take (i := 4) (v := (.agg #[.int .i64 (1 - x1), .int .i64 x2, .bool x3, .bool x4, .int .i64 x5, (.slice A7 n7 c7)])) rfl (by kernel_rfl) (by kernel_rfl) (by kernel_rfl) (fun _ _ _ h => cutq_panic h) (yieldsIf_run rfl (fun w' hS => ?_)) KS ?_
      · obtain ⟨-, z0, z1, z2, z3, z4, z5⟩ := hS
        simp only at z0 z1 z2 z3 z4 z5
        go_simp
      have bb0 := Below.refl wD.heap.size wD
      refine wpAnyP_two (i := 3) (j := 9) (by kernel_rfl) ?_ ?_
      ·
        refine wpOp_call (f := 26) (args := #[(.slice A l.length cap)]) rfl rfl (by kernel_rfl) ?_
        refine (H26.out _ l _ ((HV.out.up S.out.1).up (TT.out.1.1.trans (bb0.mono hwz))) (by omega) ZL.out).mono ?_
        rintro e1 wa1 ⟨⟨A3, n3, c3, rfl, hr3, -⟩, hb1⟩
        refine ⟨_, rfl, fun _ _ hS => ⟨hS.1.up hb1, hS.2.up hb1⟩, ?_⟩
        have bb1 := bb0.trans (hb1.mono bb0.size)
        refine wpAnyP_two (i := 5) (j := 9) (by kernel_rfl) ?_ ?_
        ·
          refine wpOp_call (f := 17) (args := #[(.agg #[.int .i64 f, .int .i64 t, .int .i64 s, .int .i64 e, .bool p]), .int .i64 n, .slice A3 n3 c3, (.agg #[.int .i64 (1 - x1), .int .i64 x2, .bool x3, .bool x4, .int .i64 x5, (.slice A7 n7 c7)])]) rfl rfl (by kernel_rfl) ?_
          refine (JE.out (.slice A3 n3 c3) (.slice A7 n7 c7) _ (hr3) (TT.out.2.2.1.up bb1)).mono ?_
          rintro e2 wa2 ⟨⟨A4, n4, c4, rfl, hru⟩, hb2⟩
          refine ⟨_, rfl, fun _ _ hS => ⟨hS.1.up hb2, hS.2.up hb2⟩, ?_⟩
          have bb2 := bb1.trans (hb2.mono bb1.size)
          refine wpAnyP_take (i := 6) (v := (.tuple #[.agg #[.int .i64 r, .int .i64 ch2, .slice A4 n4 c4], .int .i64 0])) rfl (by kernel_rfl) (by kernel_rfl) (by kernel_rfl) (fun _ _ _ h => cutq_panic h) (yieldsIf_run rfl (fun w' hS => ?_)) ⟨KS.1.up bb2, KS.2.up bb2⟩ ?_
          · go_simp
          refine wpAnyP_take (i := 7) (v := .agg #[.int .i64 r, .int .i64 ch2, .slice A4 n4 c4]) rfl (by kernel_rfl) (by kernel_rfl) (by kernel_rfl) (fun _ _ _ h => cutq_panic h) (yieldsIf_run rfl (fun w' hS => ?_)) ⟨KS.1.up bb2, KS.2.up bb2⟩ ?_
          · go_simp
          refine wpAnyP_take (i := 8) (v := .int .i64 0) rfl (by kernel_rfl) (by kernel_rfl) (by kernel_rfl) (fun _ _ _ h => cutq_panic h) (yieldsIf_run rfl (fun w' hS => ?_)) ⟨KS.1.up bb2, KS.2.up bb2⟩ ?_
          · go_simp
          refine wpAnyP_one (i := 9) (by kernel_rfl) (wpOp_run (v := ptr wa2.heap.size) (w' := World.alloc wa2 (.cells #[.int .i64 0, .int .i64 0, .slice none 0 0] 40)) rfl rfl (by kernel_rfl) ?_)
          have hb3 := (Below.refl wa2.heap.size wa2).alloc (Nat.le_refl _) (.cells #[.int .i64 0, .int .i64 0, .slice none 0 0] 40)
          have Q3 := R3.new wa2 0 0 (.slice none 0 0)
          have bb3 := bb2.trans (hb3.mono bb2.size)
          have hB3 : wD.heap.size ≤ wa2.heap.size := bb2.size
          refine ⟨fun _ _ hS => ⟨hS.1.up hb3, hS.2.up hb3⟩, ?_⟩
          generalize World.alloc wa2 _ = wa3 at hb3 Q3 bb3 ⊢
          obtain ⟨bq, hbq⟩ : ∃ q, wa2.heap.size = q := ⟨_, rfl⟩
          rw [hbq] at Q3 hB3 ⊢
          obtain ⟨⟨y0, y1, y2⟩, f0, f1, f2⟩ := Q3.cells
          have hg := grown_setCells bq (r3C r ch2 (.slice A4 n4 c4)) 0 wa3
          refine wpAnyP_one (i := 10) (by kernel_rfl) (wpOp_skip (w' := wa3.setCells bq 0 (r3C r ch2 (.slice A4 n4 c4))) rfl rfl ?_ ⟨fun _ _ hS => ⟨hS.1.kept hg (by simp; omega), hS.2.kept hg (by simp; omega)⟩, ?_⟩)
          · unfold execOp
            go_simp
            rfl
          have bbF := bb3.grown hg bb3.size (fun j e => by injection e with e; omega)
          have JF : JdW (wa3.setCells bq 0 (r3C r ch2 (.slice A4 n4 c4))) bq r ch2 (.slice A4 n4 c4) (chgP excS P) := ⟨Q3.all _ _ _, hru.rulW.up (hb3.grown hg hb3.size (fun j e => by injection e with e; omega))⟩
          clear y0 y1 y2 f0 f1 f2
          generalize World.setCells wa3 _ _ _ = wF at bbF JF ⊢
          refine wpAnyP_take (i := 11) (v := .int .i64 0) rfl (by kernel_rfl) (by kernel_rfl) (by kernel_rfl) (fun _ _ _ h => cutq_panic h) (yieldsIf_run rfl (fun w' hS => ?_)) ⟨KS.1.up bbF, KS.2.up bbF⟩ ?_
          · go_simp
          exact wpAnyP_done (by kernel_rfl) ⟨rfl, (bq, ⟨A4, n4, c4⟩, ⟨A3, n3, c3⟩), by kernel_rfl, bbF, JF⟩ _
        ·
          refine wpOp_run (v := ptr wa1.heap.size) (w' := World.alloc wa1 (.cells #[.int .i64 0, .int .i64 0, .slice none 0 0] 40)) rfl rfl (by kernel_rfl) ?_
          have hb2 := (Below.refl wa1.heap.size wa1).alloc (Nat.le_refl _) (.cells #[.int .i64 0, .int .i64 0, .slice none 0 0] 40)
          have Q3 := R3.new wa1 0 0 (.slice none 0 0)
          have bb2 := bb1.trans (hb2.mono bb1.size)
          have hB3 : wD.heap.size ≤ wa1.heap.size := bb1.size
          refine ⟨fun _ _ hS => ⟨hS.1.up hb2, hS.2.up hb2⟩, ?_⟩
          generalize World.alloc wa1 _ = wa2 at hb2 Q3 bb2 ⊢
          obtain ⟨bq, hbq⟩ : ∃ q, wa1.heap.size = q := ⟨_, rfl⟩
          rw [hbq] at Q3 hB3 ⊢
          refine wpAnyP_one (i := 5) (by kernel_rfl) (wpOp_call (f := 17) (args := #[(.agg #[.int .i64 f, .int .i64 t, .int .i64 s, .int .i64 e, .bool p]), .int .i64 n, .slice A3 n3 c3, (.agg #[.int .i64 (1 - x1), .int .i64 x2, .bool x3, .bool x4, .int .i64 x5, (.slice A7 n7 c7)])]) rfl rfl (by kernel_rfl) ?_)
          refine (JE.out (.slice A3 n3 c3) (.slice A7 n7 c7) _ (hr3.up hb2) (TT.out.2.2.1.up bb2)).mono ?_
          rintro e2 wa3 ⟨⟨A4, n4, c4, rfl, hru⟩, hb3⟩
          refine ⟨_, rfl, fun _ _ hS => ⟨hS.1.up hb3, hS.2.up hb3⟩, ?_⟩
          have bb3 := bb2.trans (hb3.mono bb2.size)
          have hlt := Q3.lt
          replace Q3 := Q3.up hb3
          refine wpAnyP_take (i := 6) (v := (.tuple #[.agg #[.int .i64 r, .int .i64 ch2, .slice A4 n4 c4], .int .i64 0])) rfl (by kernel_rfl) (by kernel_rfl) (by kernel_rfl) (fun _ _ _ h => cutq_panic h) (yieldsIf_run rfl (fun w' hS => ?_)) ⟨KS.1.up bb3, KS.2.up bb3⟩ ?_
          · go_simp
          refine wpAnyP_take (i := 7) (v := .agg #[.int .i64 r, .int .i64 ch2, .slice A4 n4 c4]) rfl (by kernel_rfl) (by kernel_rfl) (by kernel_rfl) (fun _ _ _ h => cutq_panic h) (yieldsIf_run rfl (fun w' hS => ?_)) ⟨KS.1.up bb3, KS.2.up bb3⟩ ?_
          · go_simp
          refine wpAnyP_take (i := 8) (v := .int .i64 0) rfl (by kernel_rfl) (by kernel_rfl) (by kernel_rfl) (fun _ _ _ h => cutq_panic h) (yieldsIf_run rfl (fun w' hS => ?_)) ⟨KS.1.up bb3, KS.2.up bb3⟩ ?_
          · go_simp
          obtain ⟨⟨y0, y1, y2⟩, f0, f1, f2⟩ := Q3.cells
          have hg := grown_setCells bq (r3C r ch2 (.slice A4 n4 c4)) 0 wa3
          refine wpAnyP_one (i := 10) (by kernel_rfl) (wpOp_skip (w' := wa3.setCells bq 0 (r3C r ch2 (.slice A4 n4 c4))) rfl rfl ?_ ⟨fun _ _ hS => ⟨hS.1.kept hg (by simp; omega), hS.2.kept hg (by simp; omega)⟩, ?_⟩)
          · unfold execOp
            go_simp
            rfl
          have bbF := bb3.grown hg bb3.size (fun j e => by injection e with e; omega)
          have JF : JdW (wa3.setCells bq 0 (r3C r ch2 (.slice A4 n4 c4))) bq r ch2 (.slice A4 n4 c4) (chgP excS P) := ⟨Q3.all _ _ _, (hru.kept hg hlt).rulW⟩
          clear y0 y1 y2 f0 f1 f2
          generalize World.setCells wa3 _ _ _ = wF at bbF JF ⊢
          refine wpAnyP_take (i := 11) (v := .int .i64 0) rfl (by kernel_rfl) (by kernel_rfl) (by kernel_rfl) (fun _ _ _ h => cutq_panic h) (yieldsIf_run rfl (fun w' hS => ?_)) ⟨KS.1.up bbF, KS.2.up bbF⟩ ?_
          · go_simp
          exact wpAnyP_done (by kernel_rfl) ⟨rfl, (bq, ⟨A4, n4, c4⟩, ⟨A3, n3, c3⟩), by kernel_rfl, bbF, JF⟩ _
      ·
        refine wpOp_run (v := ptr wD.heap.size) (w' := World.alloc wD (.cells #[.int .i64 0, .int .i64 0, .slice none 0 0] 40)) rfl rfl (by kernel_rfl) ?_
        have hb1 := (Below.refl wD.heap.size wD).alloc (Nat.le_refl _) (.cells #[.int .i64 0, .int .i64 0, .slice none 0 0] 40)
        have Q3 := R3.new wD 0 0 (.slice none 0 0)
        have bb1 := bb0.trans (hb1.mono bb0.size)
        have hB3 : wD.heap.size ≤ wD.heap.size := bb0.size
        refine ⟨fun _ _ hS => ⟨hS.1.up hb1, hS.2.up hb1⟩, ?_⟩
        generalize World.alloc wD _ = wa1 at hb1 Q3 bb1 ⊢
        obtain ⟨bq, hbq⟩ : ∃ q, wD.heap.size = q := ⟨_, rfl⟩
        rw [hbq] at Q3 hB3 ⊢
        refine wpAnyP_one (i := 3) (by kernel_rfl) (wpOp_call (f := 26) (args := #[(.slice A l.length cap)]) rfl rfl (by kernel_rfl) ?_)
        refine (H26.out _ l _ ((HV.out.up S.out.1).up (TT.out.1.1.trans (bb1.mono hwz))) (by omega) ZL.out).mono ?_
        rintro e1 wa2 ⟨⟨A3, n3, c3, rfl, hr3, -⟩, hb2⟩
        refine ⟨_, rfl, fun _ _ hS => ⟨hS.1.up hb2, hS.2.up hb2⟩, ?_⟩
        have bb2 := bb1.trans (hb2.mono bb1.size)
        replace Q3 := Q3.up hb2
        refine wpAnyP_one (i := 5) (by kernel_rfl) (wpOp_call (f := 17) (args := #[(.agg #[.int .i64 f, .int .i64 t, .int .i64 s, .int .i64 e, .bool p]), .int .i64 n, .slice A3 n3 c3, (.agg #[.int .i64 (1 - x1), .int .i64 x2, .bool x3, .bool x4, .int .i64 x5, (.slice A7 n7 c7)])]) rfl rfl (by kernel_rfl) ?_)
        refine (JE.out (.slice A3 n3 c3) (.slice A7 n7 c7) _ (hr3) (TT.out.2.2.1.up bb2)).mono ?_
        rintro e2 wa3 ⟨⟨A4, n4, c4, rfl, hru⟩, hb3⟩
        refine ⟨_, rfl, fun _ _ hS => ⟨hS.1.up hb3, hS.2.up hb3⟩, ?_⟩
        have bb3 := bb2.trans (hb3.mono bb2.size)
        have hlt := Q3.lt
        replace Q3 := Q3.up hb3
        refine wpAnyP_take (i := 6) (v := (.tuple #[.agg #[.int .i64 r, .int .i64 ch2, .slice A4 n4 c4], .int .i64 0])) rfl (by kernel_rfl) (by kernel_rfl) (by kernel_rfl) (fun _ _ _ h => cutq_panic h) (yieldsIf_run rfl (fun w' hS => ?_)) ⟨KS.1.up bb3, KS.2.up bb3⟩ ?_
        · go_simp
        refine wpAnyP_take (i := 7) (v := .agg #[.int .i64 r, .int .i64 ch2, .slice A4 n4 c4]) rfl (by kernel_rfl) (by kernel_rfl) (by kernel_rfl) (fun _ _ _ h => cutq_panic h) (yieldsIf_run rfl (fun w' hS => ?_)) ⟨KS.1.up bb3, KS.2.up bb3⟩ ?_
        · go_simp
        refine wpAnyP_take (i := 8) (v := .int .i64 0) rfl (by kernel_rfl) (by kernel_rfl) (by kernel_rfl) (fun _ _ _ h => cutq_panic h) (yieldsIf_run rfl (fun w' hS => ?_)) ⟨KS.1.up bb3, KS.2.up bb3⟩ ?_
        · go_simp
        obtain ⟨⟨y0, y1, y2⟩, f0, f1, f2⟩ := Q3.cells
        have hg := grown_setCells bq (r3C r ch2 (.slice A4 n4 c4)) 0 wa3
        refine wpAnyP_one (i := 10) (by kernel_rfl) (wpOp_skip (w' := wa3.setCells bq 0 (r3C r ch2 (.slice A4 n4 c4))) rfl rfl ?_ ⟨fun _ _ hS => ⟨hS.1.kept hg (by simp; omega), hS.2.kept hg (by simp; omega)⟩, ?_⟩)
        · unfold execOp
          go_simp
          rfl
        have bbF := bb3.grown hg bb3.size (fun j e => by injection e with e; omega)
        have JF : JdW (wa3.setCells bq 0 (r3C r ch2 (.slice A4 n4 c4))) bq r ch2 (.slice A4 n4 c4) (chgP excS P) := ⟨Q3.all _ _ _, (hru.kept hg hlt).rulW⟩
        clear y0 y1 y2 f0 f1 f2
        generalize World.setCells wa3 _ _ _ = wF at bbF JF ⊢
        refine wpAnyP_take (i := 11) (v := .int .i64 0) rfl (by kernel_rfl) (by kernel_rfl) (by kernel_rfl) (fun _ _ _ h => cutq_panic h) (yieldsIf_run rfl (fun w' hS => ?_)) ⟨KS.1.up bbF, KS.2.up bbF⟩ ?_
        · go_simp
        exact wpAnyP_done (by kernel_rfl) ⟨rfl, (bq, ⟨A4, n4, c4⟩, ⟨A3, n3, c3⟩), by kernel_rfl, bbF, JF⟩ _
    rintro ⟨J3b, ⟨J3A, J3n, J3c⟩, ⟨A3, n3, c3⟩⟩ wE ⟨bbF, JF⟩
    simp only [slV] at JF
    have J3 := Lib.hid JF
    replace TT := Lib.hid (TT.out.up bbF)
    replace J1 := Lib.hid (J1.out.up bbF)
    replace J2 := Lib.hid (J2.out.up bbF)
    clear JF bbF KS hbk hwz
    go_upto_region 11 with fail
    replace TT := Lib.hid (TT.out.up (Below.refl _ _).drew)
    replace J1 := Lib.hid (J1.out.up (Below.refl _ _).drew)
    replace J2 := Lib.hid (J2.out.up (Below.refl _ _).drew)
    replace J3 := Lib.hid (J3.out.up (Below.refl _ _).drew)
    refine wp_region_P (fun _ w' => Cd5 w' w.heap.size ⟨f, t, s, e, p⟩ ∧ Th6 w' r6 ⟨x1, x2, x3, x4, x5⟩ (.slice A8 n8 c8)) (by kernel_rfl) ?_
    generalize hwd : wE.drew = wG
    rw [hwd] at TT J1 J2 J3
    clear hwd
    have KS := (⟨S.out.2.1.up TT.out.1.1, TT.out.1.2.2.2.1.th⟩ : Cd5 wG w.heap.size ⟨f, t, s, e, p⟩ ∧ Th6 wG r6 ⟨x1, x2, x3, x4, x5⟩ (.slice A8 n8 c8))
    have hbk := TT.out.1.2.2.2.1.lt
    have hwz := TT.out.1.1.size
    refine wpAnyP_cut (T := Nat × Sl × Sl) (fun a tq => (((((((((((a.put (some 73) (.agg #[.int .i64 f, .int .i64 t, .int .i64 s, .int .i64 e, .bool p])).put (some 74) (.int .i64 n)).put (some 75) (.slice A l.length cap)).put (some 77) (.agg #[.int .i64 (x1), .int .i64 x2, .bool x3, .bool x4, .int .i64 x5, (.slice A8 n8 c8)])).put (some 76) (slV tq.2.2)).put (some 78) (.tuple #[.agg #[.int .i64 r, .int .i64 ch, slV tq.2.1], .int .i64 0])).put (some 72) (.tuple #[.agg #[.int .i64 r, .int .i64 ch, slV tq.2.1], .int .i64 0])).put (some 79) (.agg #[.int .i64 r, .int .i64 ch, slV tq.2.1])).put (some 18) (ptr tq.1)).put (some 80) (.int .i64 0)).put (some 19) (.int .i64 0)))
      (fun tq w' => Bel wG w' ∧ JdW w' tq.1 r ch (slV tq.2.1) P) ?_ ?_
    ·
      refine wpAnyP_take (i := 0) (v := (.agg #[.int .i64 f, .int .i64 t, .int .i64 s, .int .i64 e, .bool p])) rfl (by kernel_rfl) (by kernel_rfl) (by kernel_rfl) (fun _ _ _ h => cutq_panic h) (yieldsIf_run rfl (fun w' hS => ?_)) KS ?_
      · obtain ⟨⟨z0, z1, z2, z3, z4⟩, -⟩ := hS
        simp only at z0 z1 z2 z3 z4
        go_simp
      refine wpAnyP_take (i := 1) (v := .int .i64 n) rfl (by kernel_rfl) (by kernel_rfl) (by kernel_rfl) (fun _ _ _ h => cutq_panic h) (yieldsIf_run rfl (fun w' hS => ?_)) KS ?_
      · go_simp
      refine wpAnyP_take (i := 2) (v := (.slice A l.length cap)) rfl (by kernel_rfl) (by kernel_rfl) (by kernel_rfl) (fun _ _ _ h => cutq_panic h) (yieldsIf_run rfl (fun w' hS => ?_)) KS ?_
      · go_simp
      refine wpAnyP_take (i := 4) (v := (.agg #[.int .i64 (x1), .int .i64 x2, .bool x3, .bool x4, .int .i64 x5, (.slice A8 n8 c8)])) rfl (by kernel_rfl) (by kernel_rfl) (by kernel_rfl) (fun _ _ _ h => cutq_panic h) (yieldsIf_run rfl (fun w' hS => ?_)) KS ?_
      · obtain ⟨-, z0, z1, z2, z3, z4, z5⟩ := hS
        simp only at z0 z1 z2 z3 z4 z5
        go_simp
      have bb0 := Below.refl wG.heap.size wG
      refine wpAnyP_two (i := 3) (j := 9) (by kernel_rfl) ?_ ?_
      ·
        refine wpOp_call (f := 27) (args := #[(.slice A l.length cap)]) rfl rfl (by kernel_rfl) ?_
        refine (H27.out _ l _ ((HV.out.up S.out.1).up (TT.out.1.1.trans (bb0.mono hwz))) (by omega)).mono ?_
        rintro e1 wa1 ⟨⟨A3, n3, c3, rfl, hr3, -⟩, hb1⟩
        refine ⟨_, rfl, fun _ _ hS => ⟨hS.1.up hb1, hS.2.up hb1⟩, ?_⟩
        have bb1 := bb0.trans (hb1.mono bb0.size)
        refine wpAnyP_two (i := 5) (j := 9) (by kernel_rfl) ?_ ?_
        ·
          refine wpOp_call (f := 17) (args := #[(.agg #[.int .i64 f, .int .i64 t, .int .i64 s, .int .i64 e, .bool p]), .int .i64 n, .slice A3 n3 c3, (.agg #[.int .i64 (x1), .int .i64 x2, .bool x3, .bool x4, .int .i64 x5, (.slice A8 n8 c8)])]) rfl rfl (by kernel_rfl) ?_
          refine (JT.out (.slice A3 n3 c3) (.slice A8 n8 c8) _ (hr3) (TT.out.2.2.2.1.up bb1)).mono ?_
          rintro e2 wa2 ⟨⟨A4, n4, c4, rfl, hru⟩, hb2⟩
          refine ⟨_, rfl, fun _ _ hS => ⟨hS.1.up hb2, hS.2.up hb2⟩, ?_⟩
          have bb2 := bb1.trans (hb2.mono bb1.size)
          refine wpAnyP_take (i := 6) (v := (.tuple #[.agg #[.int .i64 r, .int .i64 ch, .slice A4 n4 c4], .int .i64 0])) rfl (by kernel_rfl) (by kernel_rfl) (by kernel_rfl) (fun _ _ _ h => cutq_panic h) (yieldsIf_run rfl (fun w' hS => ?_)) ⟨KS.1.up bb2, KS.2.up bb2⟩ ?_
          · go_simp
          refine wpAnyP_take (i := 7) (v := .agg #[.int .i64 r, .int .i64 ch, .slice A4 n4 c4]) rfl (by kernel_rfl) (by kernel_rfl) (by kernel_rfl) (fun _ _ _ h => cutq_panic h) (yieldsIf_run rfl (fun w' hS => ?_)) ⟨KS.1.up bb2, KS.2.up bb2⟩ ?_
          · go_simp
          refine wpAnyP_take (i := 8) (v := .int .i64 0) rfl (by kernel_rfl) (by kernel_rfl) (by kernel_rfl) (fun _ _ _ h => cutq_panic h) (yieldsIf_run rfl (fun w' hS => ?_)) ⟨KS.1.up bb2, KS.2.up bb2⟩ ?_
          · go_simp
          refine wpAnyP_one (i := 9) (by kernel_rfl) (wpOp_run (v := ptr wa2.heap.size) (w' := World.alloc wa2 (.cells #[.int .i64 0, .int .i64 0, .slice none 0 0] 40)) rfl rfl (by kernel_rfl) ?_)
          have hb3 := (Below.refl wa2.heap.size wa2).alloc (Nat.le_refl _) (.cells #[.int .i64 0, .int .i64 0, .slice none 0 0] 40)
          have Q3 := R3.new wa2 0 0 (.slice none 0 0)
          have bb3 := bb2.trans (hb3.mono bb2.size)
          have hB3 : wG.heap.size ≤ wa2.heap.size := bb2.size
          refine ⟨fun _ _ hS => ⟨hS.1.up hb3, hS.2.up hb3⟩, ?_⟩
          generalize World.alloc wa2 _ = wa3 at hb3 Q3 bb3 ⊢
          obtain ⟨bq, hbq⟩ : ∃ q, wa2.heap.size = q := ⟨_, rfl⟩
          rw [hbq] at Q3 hB3 ⊢
          obtain ⟨⟨y0, y1, y2⟩, f0, f1, f2⟩ := Q3.cells
          have hg := grown_setCells bq (r3C r ch (.slice A4 n4 c4)) 0 wa3
          refine wpAnyP_one (i := 10) (by kernel_rfl) (wpOp_skip (w' := wa3.setCells bq 0 (r3C r ch (.slice A4 n4 c4))) rfl rfl ?_ ⟨fun _ _ hS => ⟨hS.1.kept hg (by simp; omega), hS.2.kept hg (by simp; omega)⟩, ?_⟩)
          · unfold execOp
            go_simp
            rfl
          have bbF := bb3.grown hg bb3.size (fun j e => by injection e with e; omega)
          have JF : JdW (wa3.setCells bq 0 (r3C r ch (.slice A4 n4 c4))) bq r ch (.slice A4 n4 c4) P := ⟨Q3.all _ _ _, hru.rulW.up (hb3.grown hg hb3.size (fun j e => by injection e with e; omega))⟩
          clear y0 y1 y2 f0 f1 f2
          generalize World.setCells wa3 _ _ _ = wF at bbF JF ⊢
          refine wpAnyP_take (i := 11) (v := .int .i64 0) rfl (by kernel_rfl) (by kernel_rfl) (by kernel_rfl) (fun _ _ _ h => cutq_panic h) (yieldsIf_run rfl (fun w' hS => ?_)) ⟨KS.1.up bbF, KS.2.up bbF⟩ ?_
          · go_simp
          exact wpAnyP_done (by kernel_rfl) ⟨rfl, (bq, ⟨A4, n4, c4⟩, ⟨A3, n3, c3⟩), by kernel_rfl, bbF, JF⟩ _
        ·
          refine wpOp_run (v := ptr wa1.heap.size) (w' := World.alloc wa1 (.cells #[.int .i64 0, .int .i64 0, .slice none 0 0] 40)) rfl rfl (by kernel_rfl) ?_
          have hb2 := (Below.refl wa1.heap.size wa1).alloc (Nat.le_refl _) (.cells #[.int .i64 0, .int .i64 0, .slice none 0 0] 40)
          have Q3 := R3.new wa1 0 0 (.slice none 0 0)
          have bb2 := bb1.trans (hb2.mono bb1.size)
          have hB3 : wG.heap.size ≤ wa1.heap.size := bb1.size
          refine ⟨fun _ _ hS => ⟨hS.1.up hb2, hS.2.up hb2⟩, ?_⟩
          generalize World.alloc wa1 _ = wa2 at hb2 Q3 bb2 ⊢
          obtain ⟨bq, hbq⟩ : ∃ q, wa1.heap.size = q := ⟨_, rfl⟩
          rw [hbq] at Q3 hB3 ⊢
          refine wpAnyP_one (i := 5) (by kernel_rfl) (wpOp_call (f := 17) (args := #[(.agg #[.int .i64 f, .int .i64 t, .int .i64 s, .int .i64 e, .bool p]), .int .i64 n, .slice A3 n3 c3, (.agg #[.int .i64 (x1), .int .i64 x2, .bool x3, .bool x4, .int .i64 x5, (.slice A8 n8 c8)])]) rfl rfl (by kernel_rfl) ?_)
          refine (JT.out (.slice A3 n3 c3) (.slice A8 n8 c8) _ (hr3.up hb2) (TT.out.2.2.2.1.up bb2)).mono ?_
          rintro e2 wa3 ⟨⟨A4, n4, c4, rfl, hru⟩, hb3⟩
          refine ⟨_, rfl, fun _ _ hS => ⟨hS.1.up hb3, hS.2.up hb3⟩, ?_⟩
          have bb3 := bb2.trans (hb3.mono bb2.size)
          have hlt := Q3.lt
          replace Q3 := Q3.up hb3
          refine wpAnyP_take (i := 6) (v := (.tuple #[.agg #[.int .i64 r, .int .i64 ch, .slice A4 n4 c4], .int .i64 0])) rfl (by kernel_rfl) (by kernel_rfl) (by kernel_rfl) (fun _ _ _ h => cutq_panic h) (yieldsIf_run rfl (fun w' hS => ?_)) ⟨KS.1.up bb3, KS.2.up bb3⟩ ?_
          · go_simp
          refine wpAnyP_take (i := 7) (v := .agg #[.int .i64 r, .int .i64 ch, .slice A4 n4 c4]) rfl (by kernel_rfl) (by kernel_rfl) (by kernel_rfl) (fun _ _ _ h => cutq_panic h) (yieldsIf_run rfl (fun w' hS => ?_)) ⟨KS.1.up bb3, KS.2.up bb3⟩ ?_
          · go_simp
          refine wpAnyP_take (i := 8) (v := .int .i64 0) rfl (by kernel_rfl) (by kernel_rfl) (by kernel_rfl) (fun _ _ _ h => cutq_panic h) (yieldsIf_run rfl (fun w' hS => ?_)) ⟨KS.1.up bb3, KS.2.up bb3⟩ ?_
          · go_simp
          obtain ⟨⟨y0, y1, y2⟩, f0, f1, f2⟩ := Q3.cells
          have hg := grown_setCells bq (r3C r ch (.slice A4 n4 c4)) 0 wa3
          refine wpAnyP_one (i := 10) (by kernel_rfl) (wpOp_skip (w' := wa3.setCells bq 0 (r3C r ch (.slice A4 n4 c4))) rfl rfl ?_ ⟨fun _ _ hS => ⟨hS.1.kept hg (by simp; omega), hS.2.kept hg (by simp; omega)⟩, ?_⟩)
          · unfold execOp
            go_simp
            rfl
          have bbF := bb3.grown hg bb3.size (fun j e => by injection e with e; omega)
          have JF : JdW (wa3.setCells bq 0 (r3C r ch (.slice A4 n4 c4))) bq r ch (.slice A4 n4 c4) P := ⟨Q3.all _ _ _, (hru.kept hg hlt).rulW⟩
          clear y0 y1 y2 f0 f1 f2
          generalize World.setCells wa3 _ _ _ = wF at bbF JF ⊢
          refine wpAnyP_take (i := 11) (v := .int .i64 0) rfl (by kernel_rfl) (by kernel_rfl) (by kernel_rfl) (fun _ _ _ h => cutq_panic h) (yieldsIf_run rfl (fun w' hS => ?_)) ⟨KS.1.up bbF, KS.2.up bbF⟩ ?_
          · go_simp
          exact wpAnyP_done (by kernel_rfl) ⟨rfl, (bq, ⟨A4, n4, c4⟩, ⟨A3, n3, c3⟩), by kernel_rfl, bbF, JF⟩ _
      ·
        refine wpOp_run (v := ptr wG.heap.size) (w' := World.alloc wG (.cells #[.int .i64 0, .int .i64 0, .slice none 0 0] 40)) rfl rfl (by kernel_rfl) ?_
        have hb1 := (Below.refl wG.heap.size wG).alloc (Nat.le_refl _) (.cells #[.int .i64 0, .int .i64 0, .slice none 0 0] 40)
        have Q3 := R3.new wG 0 0 (.slice none 0 0)
        have bb1 := bb0.trans (hb1.mono bb0.size)
        have hB3 : wG.heap.size ≤ wG.heap.size := bb0.size
        refine ⟨fun _ _ hS => ⟨hS.1.up hb1, hS.2.up hb1⟩, ?_⟩
        generalize World.alloc wG _ = wa1 at hb1 Q3 bb1 ⊢
        obtain ⟨bq, hbq⟩ : ∃ q, wG.heap.size = q := ⟨_, rfl⟩
        rw [hbq] at Q3 hB3 ⊢
        refine wpAnyP_one (i := 3) (by kernel_rfl) (wpOp_call (f := 27) (args := #[(.slice A l.length cap)]) rfl rfl (by kernel_rfl) ?_)
        refine (H27.out _ l _ ((HV.out.up S.out.1).up (TT.out.1.1.trans (bb1.mono hwz))) (by omega)).mono ?_
        rintro e1 wa2 ⟨⟨A3, n3, c3, rfl, hr3, -⟩, hb2⟩
        refine ⟨_, rfl, fun _ _ hS => ⟨hS.1.up hb2, hS.2.up hb2⟩, ?_⟩
        have bb2 := bb1.trans (hb2.mono bb1.size)
        replace Q3 := Q3.up hb2
        refine wpAnyP_one (i := 5) (by kernel_rfl) (wpOp_call (f := 17) (args := #[(.agg #[.int .i64 f, .int .i64 t, .int .i64 s, .int .i64 e, .bool p]), .int .i64 n, .slice A3 n3 c3, (.agg #[.int .i64 (x1), .int .i64 x2, .bool x3, .bool x4, .int .i64 x5, (.slice A8 n8 c8)])]) rfl rfl (by kernel_rfl) ?_)
        refine (JT.out (.slice A3 n3 c3) (.slice A8 n8 c8) _ (hr3) (TT.out.2.2.2.1.up bb2)).mono ?_
        rintro e2 wa3 ⟨⟨A4, n4, c4, rfl, hru⟩, hb3⟩
        refine ⟨_, rfl, fun _ _ hS => ⟨hS.1.up hb3, hS.2.up hb3⟩, ?_⟩
        have bb3 := bb2.trans (hb3.mono bb2.size)
        have hlt := Q3.lt
        replace Q3 := Q3.up hb3
        refine wpAnyP_take (i := 6) (v := (.tuple #[.agg #[.int .i64 r, .int .i64 ch, .slice A4 n4 c4], .int .i64 0])) rfl (by kernel_rfl) (by kernel_rfl) (by kernel_rfl) (fun _ _ _ h => cutq_panic h) (yieldsIf_run rfl (fun w' hS => ?_)) ⟨KS.1.up bb3, KS.2.up bb3⟩ ?_
        · go_simp
        refine wpAnyP_take (i := 7) (v := .agg #[.int .i64 r, .int .i64 ch, .slice A4 n4 c4]) rfl (by kernel_rfl) (by kernel_rfl) (by kernel_rfl) (fun _ _ _ h => cutq_panic h) (yieldsIf_run rfl (fun w' hS => ?_)) ⟨KS.1.up bb3, KS.2.up bb3⟩ ?_
        · go_simp
        refine wpAnyP_take (i := 8) (v := .int .i64 0) rfl (by kernel_rfl) (by kernel_rfl) (by kernel_rfl) (fun _ _ _ h => cutq_panic h) (yieldsIf_run rfl (fun w' hS => ?_)) ⟨KS.1.up bb3, KS.2.up bb3⟩ ?_
        · go_simp
        obtain ⟨⟨y0, y1, y2⟩, f0, f1, f2⟩ := Q3.cells
        have hg := grown_setCells bq (r3C r ch (.slice A4 n4 c4)) 0 wa3
        refine wpAnyP_one (i := 10) (by kernel_rfl) (wpOp_skip (w' := wa3.setCells bq 0 (r3C r ch (.slice A4 n4 c4))) rfl rfl ?_ ⟨fun _ _ hS => ⟨hS.1.kept hg (by simp; omega), hS.2.kept hg (by simp; omega)⟩, ?_⟩)
        · unfold execOp
          go_simp
          rfl
        have bbF := bb3.grown hg bb3.size (fun j e => by injection e with e; omega)
        have JF : JdW (wa3.setCells bq 0 (r3C r ch (.slice A4 n4 c4))) bq r ch (.slice A4 n4 c4) P := ⟨Q3.all _ _ _, (hru.kept hg hlt).rulW⟩
        clear y0 y1 y2 f0 f1 f2
        generalize World.setCells wa3 _ _ _ = wF at bbF JF ⊢
        refine wpAnyP_take (i := 11) (v := .int .i64 0) rfl (by kernel_rfl) (by kernel_rfl) (by kernel_rfl) (fun _ _ _ h => cutq_panic h) (yieldsIf_run rfl (fun w' hS => ?_)) ⟨KS.1.up bbF, KS.2.up bbF⟩ ?_
        · go_simp
        exact wpAnyP_done (by kernel_rfl) ⟨rfl, (bq, ⟨A4, n4, c4⟩, ⟨A3, n3, c3⟩), by kernel_rfl, bbF, JF⟩ _
    rintro ⟨J4b, ⟨J4A, J4n, J4c⟩, ⟨A3, n3, c3⟩⟩ wH ⟨bbF, JF⟩
    simp only [slV] at JF
    have J4 := Lib.hid JF
    replace TT := Lib.hid (TT.out.up bbF)
    replace J1 := Lib.hid (J1.out.up bbF)
    replace J2 := Lib.hid (J2.out.up bbF)
    replace J3 := Lib.hid (J3.out.up bbF)
    clear JF bbF KS hbk hwz
    go_upto_region 14 with fail
    replace J1 := Lib.hid (J1.out.up (Below.refl _ _).drew)
    replace J2 := Lib.hid (J2.out.up (Below.refl _ _).drew)
    replace J3 := Lib.hid (J3.out.up (Below.refl _ _).drew)
    replace J4 := Lib.hid (J4.out.up (Below.refl _ _).drew)
    replace TT := Lib.hid (TT.out.up (Below.refl _ _).drew)
    refine wp_region_P (fun _ w' => R3 w' pa r ch (.slice A5 n5 c5') ∧ R3 w' J2b r ch1 (.slice J2A J2n J2c) ∧ R3 w' J3b r ch2 (.slice J3A J3n J3c) ∧ R3 w' J4b r ch (.slice J4A J4n J4c)) (by kernel_rfl) ?_
    generalize hwd : wH.drew = wI
    rw [hwd] at J1 J2 J3 J4 TT
    clear hwd
    have KS := (⟨J1.out.1, J2.out.1, J3.out.1, J4.out.1⟩ : R3 wI pa r ch (.slice A5 n5 c5') ∧ R3 wI J2b r ch1 (.slice J2A J2n J2c) ∧ R3 wI J3b r ch2 (.slice J3A J3n J3c) ∧ R3 wI J4b r ch (.slice J4A J4n J4c))
    have UP : ∀ {a b : World}, Below a.heap.size a b → (R3 a pa r ch (.slice A5 n5 c5') ∧ R3 a J2b r ch1 (.slice J2A J2n J2c) ∧ R3 a J3b r ch2 (.slice J3A J3n J3c) ∧ R3 a J4b r ch (.slice J4A J4n J4c)) → (R3 b pa r ch (.slice A5 n5 c5') ∧ R3 b J2b r ch1 (.slice J2A J2n J2c) ∧ R3 b J3b r ch2 (.slice J3A J3n J3c) ∧ R3 b J4b r ch (.slice J4A J4n J4c)) := fun hb h => ⟨h.1.up hb, h.2.1.up hb, h.2.2.1.up hb, h.2.2.2.up hb⟩
    have bb0 := Below.refl wI.heap.size wI
    refine wpAnyP_take (i := 0) (v := (.agg #[.int .i64 r, .int .i64 ch1, (.slice J2A J2n J2c)])) rfl (by kernel_rfl) (by kernel_rfl) (by kernel_rfl) (fun _ _ _ h => h) (yieldsIf_run rfl (fun w' hS => ?_)) (KS) ?_
    · obtain ⟨⟨y0, y1, y2⟩, -⟩ := hS.2.1.cells
      go_simp
    refine wpAnyP_take (i := 1) (v := (.agg #[.int .i64 r, .int .i64 ch, (.slice A5 n5 c5')])) rfl (by kernel_rfl) (by kernel_rfl) (by kernel_rfl) (fun _ _ _ h => h) (yieldsIf_run rfl (fun w' hS => ?_)) (KS) ?_
    · obtain ⟨⟨y0, y1, y2⟩, -⟩ := hS.1.cells
      go_simp
    refine wpAnyP_one (i := 2) (by kernel_rfl) (wpOp_call (f := 28) (args := #[(.agg #[.int .i64 r, .int .i64 ch, (.slice A5 n5 c5')]), .int .i64 0]) rfl rfl (by kernel_rfl) ?_)
    refine (HC0.out _ _ (J1.out.2.up bb0)).mono ?_
    rintro e1 wJ ⟨⟨A9, n9, c9, rfl, hr9⟩, hb1⟩
    rw [HCH1.out]
    refine ⟨_, rfl, fun _ _ hS => UP hb1 hS, ?_⟩
    have bb1 := bb0.trans (hb1.mono bb0.size)
    refine wpAnyP_one (i := 3) (by kernel_rfl) (wpOp_call (f := 21) (args := #[(.agg #[.int .i64 r, .int .i64 ch1, (.slice J2A J2n J2c)]), (.agg #[.int .i64 r, .int .i64 ch1, (.slice A9 n9 c9)])]) rfl rfl (by kernel_rfl) ?_)
    refine (sameW r ch1 _ _ (chgP mirS P) _ (J2.out.2.up bb1) hr9).mono ?_
    rintro e1 wK ⟨rfl, hb2⟩
    refine ⟨_, rfl, fun _ _ hS => UP hb2 hS, ?_⟩
    have bb2 := bb1.trans (hb2.mono bb1.size)
    refine wpAnyP_take (i := 4) (v := .bool true) rfl (by kernel_rfl) (by kernel_rfl) (by kernel_rfl) (fun _ _ _ h => h) (yieldsIf_run rfl (fun w' hS => ?_)) (UP bb2 KS) ?_
    · go_simp
    refine wpAnyP_take (i := 5) (v := (.agg #[.int .i64 r, .int .i64 ch2, (.slice J3A J3n J3c)])) rfl (by kernel_rfl) (by kernel_rfl) (by kernel_rfl) (fun _ _ _ h => h) (yieldsIf_runG (by kernel_rfl) (fun w' hS => ?_)) (UP bb2 KS) ?_
    · obtain ⟨⟨y0, y1, y2⟩, -⟩ := hS.2.2.1.cells
      go_simp
    refine wpAnyP_take (i := 6) (v := (.agg #[.int .i64 r, .int .i64 ch, (.slice A5 n5 c5')])) rfl (by kernel_rfl) (by kernel_rfl) (by kernel_rfl) (fun _ _ _ h => h) (yieldsIf_runG (by kernel_rfl) (fun w' hS => ?_)) (UP bb2 KS) ?_
    · obtain ⟨⟨y0, y1, y2⟩, -⟩ := hS.1.cells
      go_simp
    refine wpAnyP_one (i := 7) (by kernel_rfl) (wpOp_callG (f := 28) (args := #[(.agg #[.int .i64 r, .int .i64 ch, (.slice A5 n5 c5')]), .int .i64 1]) rfl (by kernel_rfl) (by kernel_rfl) ?_)
    refine (HC1.out _ _ (J1.out.2.up bb2)).mono ?_
    rintro e1 wL ⟨⟨A10, n10, c10, rfl, hr10⟩, hb3⟩
    rw [HCH2.out]
    refine ⟨_, rfl, fun _ _ hS => UP hb3 hS, ?_⟩
    have bb3 := bb2.trans (hb3.mono bb2.size)
    refine wpAnyP_one (i := 8) (by kernel_rfl) (wpOp_callG (f := 21) (args := #[(.agg #[.int .i64 r, .int .i64 ch2, (.slice J3A J3n J3c)]), (.agg #[.int .i64 r, .int .i64 ch2, (.slice A10 n10 c10)])]) rfl (by kernel_rfl) (by kernel_rfl) ?_)
    refine (sameW r ch2 _ _ (chgP excS P) _ (J3.out.2.up bb3) hr10).mono ?_
    rintro e1 wM ⟨rfl, hb4⟩
    refine ⟨_, rfl, fun _ _ hS => UP hb4 hS, ?_⟩
    have bb4 := bb3.trans (hb4.mono bb3.size)
    refine wpAnyP_take (i := 9) (v := .bool true) rfl (by kernel_rfl) (by kernel_rfl) (by kernel_rfl) (fun _ _ _ h => h) (yieldsIf_run rfl (fun w' hS => ?_)) (UP bb4 KS) ?_
    · go_simp
    refine wpAnyP_take (i := 10) (v := .bool true) rfl (by kernel_rfl) (by kernel_rfl) (by kernel_rfl) (fun _ _ _ h => h) (yieldsIf_run rfl (fun w' hS => ?_)) (UP bb4 KS) ?_
    · go_simp
    refine wpAnyP_take (i := 11) (v := (.agg #[.int .i64 r, .int .i64 ch, (.slice J4A J4n J4c)])) rfl (by kernel_rfl) (by kernel_rfl) (by kernel_rfl) (fun _ _ _ h => h) (yieldsIf_runG (by kernel_rfl) (fun w' hS => ?_)) (UP bb4 KS) ?_
    · obtain ⟨⟨y0, y1, y2⟩, -⟩ := hS.2.2.2.cells
      go_simp
    refine wpAnyP_take (i := 12) (v := (.agg #[.int .i64 r, .int .i64 ch, (.slice A5 n5 c5')])) rfl (by kernel_rfl) (by kernel_rfl) (by kernel_rfl) (fun _ _ _ h => h) (yieldsIf_runG (by kernel_rfl) (fun w' hS => ?_)) (UP bb4 KS) ?_
    · obtain ⟨⟨y0, y1, y2⟩, -⟩ := hS.1.cells
      go_simp
    refine wpAnyP_one (i := 13) (by kernel_rfl) (wpOp_callG (f := 21) (args := #[(.agg #[.int .i64 r, .int .i64 ch, (.slice J4A J4n J4c)]), (.agg #[.int .i64 r, .int .i64 ch, (.slice A5 n5 c5')])]) rfl (by kernel_rfl) (by kernel_rfl) ?_)
    refine (sameW r ch _ _ P _ (J4.out.2.up bb4) (J1.out.2.up bb4)).mono ?_
    rintro e1 wN ⟨rfl, hb5⟩
    refine ⟨_, rfl, fun _ _ hS => UP hb5 hS, ?_⟩
    have bb5 := bb4.trans (hb5.mono bb4.size)
    refine wpAnyP_take (i := 14) (v := .bool true) rfl (by kernel_rfl) (by kernel_rfl) (by kernel_rfl) (fun _ _ _ h => h) (yieldsIf_run rfl (fun w' hS => ?_)) (UP bb5 KS) ?_
    · go_simp
    refine wpAnyP_take (i := 15) (v := .bool true) rfl (by kernel_rfl) (by kernel_rfl) (by kernel_rfl) (fun _ _ _ h => h) (yieldsIf_run rfl (fun w' hS => ?_)) (UP bb5 KS) ?_
    · go_simp
    refine wpAnyP_one (i := 16) (by kernel_rfl) (wpOp_callG (f := 8) (args := #[]) rfl (by kernel_rfl) (by kernel_rfl) ?_)
    refine (awake_any _).mono ?_
    rintro e1 wO ⟨rfl, hb6⟩
    refine ⟨_, rfl, fun _ _ hS => UP hb6 hS, ?_⟩
    have bb6 := bb5.trans (hb6.mono bb5.size)
    refine wpAnyP_take (i := 17) (v := .bool true) rfl (by kernel_rfl) (by kernel_rfl) (by kernel_rfl) (fun _ _ _ h => h) (yieldsIf_run rfl (fun w' hS => ?_)) (UP bb6 KS) ?_
    · go_simp
    refine wpAnyP_take (i := 18) (v := .bool true) rfl (by kernel_rfl) (by kernel_rfl) (by kernel_rfl) (fun _ _ _ h => h) (yieldsIf_run rfl (fun w' hS => ?_)) (UP bb6 KS) ?_
    · go_simp
    refine wpAnyP_done (by kernel_rfl) ?_ _
    have HF : Hid (Below w.heap.size w wO) := S.out.1.trans ((TT.out.1.1.trans (bb6.mono TT.out.1.1.size)).mono S.out.1.size)
    clear KS UP J1 J2 J3 J4 TT hr9 hr10
    go_wp2_with fail
    exact bodyPost_ret (v := .bool true) (by kernel_rfl) (by kernel_rfl) ⟨rfl, HF.out⟩
  · have hE1 : (E != 0) = true := by simpa using hE0
    clear PL HPL H25 H26 H27
    go_wp2_with (go_at_call 8; refine (awake_any _).mono ?_; rintro e1 w1 ⟨rfl, hb1⟩; replace S := Lib.hid (S.out.up hb1); clear hb1)
    go_ret
    exact ⟨rfl, S.out.1⟩
set_option maxRecDepth 100000 in
set_option maxHeartbeats 4000000 in
theorem Sides_big (c : Cd) (n : Int) (x : Th) (A : Option Addr) (n1 cap : Nat) (A2 : Option Addr) (n2 cap2 : Nat) (w : World) (h : 20 < n1 ∨ 20 < n2) : Calls Try.prog 6 #[Cdv c, .int .i64 n, .slice A n1 cap, Thv x (.slice A2 n2 cap2)] w (Back (.bool true) w) := by
  have H16 : Hid (∀ W, Calls Try.prog 16 #[.slice A n1 cap, Thv x (.slice A2 n2 cap2)] W (Back (.bool true) W)) := fun W => by
    have := great16 A n1 cap x A2 n2 cap2 W
    rwa [decide_eq_true h] at this
  have K0 := Lib.hid (PaS.new w c x (.slice A2 n2 cap2))
  obtain ⟨x1, x2, x3, x4, x5⟩ := x
  obtain ⟨f, t, s, e, p⟩ := c
  clear h
  go_enter Try.func6, Try.ntmps6
  go_upto_region 1 with fail
  generalize hwx : World.alloc (World.alloc w _) _ = wx
  have S : Hid (PaS w wx ⟨f, t, s, e, p⟩ ⟨x1, x2, x3, x4, x5⟩ (.slice A2 n2 cap2)) := by show PaS _ _ _ _ _; rw [← hwx]; exact K0.out
  clear hwx K0
  obtain ⟨-, -, c0, c1, c2, c3, c4, c5⟩ := S.out
  simp only at c0 c1 c2 c3 c4
  go_wp2_with (first
    | (go_at_call 16; (with_reducible refine (H16.out _).mono ?_); rintro e1 w1 ⟨rfl, hb1⟩; replace S := Lib.hid (S.out.up hb1); clear hb1 c0 c1 c2 c3 c4 c5)
    | (go_at_call 8; refine (awake_any _).mono ?_; rintro e1 w1 ⟨rfl, hb1⟩; replace S := Lib.hid (S.out.up hb1); clear hb1))
  go_ret
  exact ⟨rfl, S.out.1⟩
theorem Sides_law (c : Cd) (n : Int) (A : Option Addr) (n1 cap : Nat) (x : Th) (A2 : Option Addr) (n2 cap2 : Nat) (w : World) (h1 : n1 ≤ 281474976710656 → ∃ l : List St, l.length = n1 ∧ RowS w (.slice A n1 cap) l) (_ : thWf x) (h2 : n2 ≤ 281474976710656 → ∃ l : List St, l.length = n2 ∧ RowS w (.slice A2 n2 cap2) l) :
    Calls Try.prog 6 #[Cdv c, .int .i64 n, .slice A n1 cap, Thv x (.slice A2 n2 cap2)] w (Back (.bool true) w) := by
  by_cases h : 20 < n1 ∨ 20 < n2
  · exact Sides_big c n x A n1 cap A2 n2 cap2 w h
  · obtain ⟨l, hl, hr⟩ := h1 (by omega)
    obtain ⟨m, hm, hr2⟩ := h2 (by omega)
    exact Sides_any c n x l m _ _ w hr hr2 (by omega) (by omega)
end Go.Proofs.Ytomcpgdpjpjioaa
