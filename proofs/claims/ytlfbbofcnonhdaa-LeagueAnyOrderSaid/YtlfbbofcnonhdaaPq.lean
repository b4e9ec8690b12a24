/- Plain law: the teams that are known, one game behind another, and asked for from the end. -/
import Derived.Test.YtlfbbofcnonhdaaPl
namespace Go.Proofs.Ytlfbbofcnonhdaa
open Go.RowKit Go.Proofs

theorem sedM_dom : ∀ (T : Nat) (x : Int × Int) (v : Int), sedM T x = some v → x.1 = 0 ∧ v = x.2
  | 0, _, _, h => by cases h
  | T + 1, x, v, h => by
    have h' : upd (sedM T) (0, ((T : Nat) : Int)) ((T : Nat) : Int) x = some v := h
    unfold upd at h'
    split at h'
    · rename_i e; injection h' with h'; subst e; exact ⟨rfl, h'.symm⟩
    · exact sedM_dom T x v h'
theorem sedM_get : ∀ (T : Nat) (t : Int), 0 ≤ t → t < T → sedM T (0, t) = some t
  | 0, t, h1, h2 => by omega
  | T + 1, t, h1, h2 => by
    show upd (sedM T) (0, ((T : Nat) : Int)) ((T : Nat) : Int) (0, t) = _
    unfold upd
    by_cases e : t = (T : Int)
    · subst e; rw [if_pos rfl]
    · rw [if_neg (by rw [Prod.mk.injEq]; omega)]; exact sedM_get T t h1 (by omega)
/-- A game changes its own two places alone. -/
theorem gameM_other (m : Int → Option Int) (f : Int × Int → Option Int) (i : Int) (g : Gm) (x : Int × Int) (h1 : x ≠ (1, i)) (h2 : x ≠ (2, i)) : gameM m f i g x = f x := by
  unfold gameM
  cases m i with
  | none => rfl
  | some r =>
    dsimp only
    cases ha : f (sideG g r) with
    | none =>
      dsimp only
      cases hb : f (sideG g (1 - r)) with
      | none => rfl
      | some t => dsimp only; unfold upd; rw [if_neg h2]
    | some t =>
      dsimp only
      cases hb : upd f (1, i) t (sideG g (1 - r)) with
      | none => exact if_neg h1
      | some t' => dsimp only; unfold upd; rw [if_neg h2]; exact if_neg h1
theorem tm_step (m : Int → Option Int) (T : Nat) (G : List Gm) (k : Nat) (x : Int × Int) (h1 : x ≠ (1, ((k : Nat) : Int))) (h2 : x ≠ (2, ((k : Nat) : Int))) : tmM m T G (k + 1) x = tmM m T G k x := gameM_other m _ _ _ x h1 h2
theorem tm_stay (m : Int → Option Int) (T : Nat) (G : List Gm) {x : Int × Int} {n : Nat} (hx : rng (T : Nat) x (n : Nat)) : ∀ k, n ≤ k → tmM m T G k x = tmM m T G n x := by
  intro k
  induction k with
  | zero => intro h; have : n = 0 := by omega
            subst this; rfl
  | succ k ih =>
    intro h
    rcases Nat.lt_or_ge n (k + 1) with q | q
    · have hne : x ≠ (1, ((k : Nat) : Int)) ∧ x ≠ (2, ((k : Nat) : Int)) := by
        unfold rng at hx
        constructor
        · rintro rfl; dsimp only at hx; rw [if_neg (by omega)] at hx; omega
        · rintro rfl; dsimp only at hx; rw [if_neg (by omega)] at hx; omega
      rw [tm_step m T G k x hne.1 hne.2]
      exact ih (by omega)
    · have : n = k + 1 := by omega
      subst this; rfl
theorem tm_none (m : Int → Option Int) (T : Nat) (G : List Gm) (a : Int) (ha : a = 1 ∨ a = 2) : ∀ (k : Nat) (j : Int), (k : Int) ≤ j → tmM m T G k (a, j) = none
  | 0, j, _ => by
    cases h : sedM T (a, j) with
    | none => exact h
    | some v => have := (sedM_dom T (a, j) v h).1; dsimp only at this; omega
  | k + 1, j, h => by
    rw [tm_step m T G k _ (by rw [Ne, Prod.mk.injEq]; omega) (by rw [Ne, Prod.mk.injEq]; omega)]
    exact tm_none m T G a ha k j (by omega)
/-- Who is at a place, by the game that it comes from. -/
theorem tm_rec {m : Int → Option Int} (_hm : ∀ i r, m i = some r → r = 0 ∨ r = 1) {T : Nat} {G : List Gm} (hg : ∀ i (h : i < G.length), rng (T : Nat) (G[i]'h).1 (i : Nat) ∧ rng (T : Nat) (G[i]'h).2 (i : Nat)) {i : Nat} (h : i < G.length) (a : Int) (ha : a = 1 ∨ a = 2) :
    tmM m T G G.length (a, ((i : Nat) : Int)) = match m ((i : Nat) : Int) with
      | none => none
      | some r => tmM m T G G.length (sideG (G[i]'h) (if a = 2 then 1 - r else r)) := by
  have hgd : G.getD i ((0, 0), (0, 0)) = G[i]'h := by rw [List.getD_eq_getElem?_getD, List.getElem?_eq_getElem h]; rfl
  have hr : rng (T : Nat) (a, ((i : Nat) : Int)) ((i + 1 : Nat) : Int) := by
    unfold rng; dsimp only
    rcases ha with rfl | rfl
    · rw [if_neg (by omega)]; omega
    · rw [if_neg (by omega)]; omega
  rw [tm_stay m T G hr G.length (by omega)]
  show gameM m (tmM m T G i) (i : Nat) (G.getD i ((0, 0), (0, 0))) (a, ((i : Nat) : Int)) = _
  rw [hgd]
  obtain ⟨g1, g2⟩ := hg i h
  have hs : ∀ r, sideG (G[i]'h) r = (G[i]'h).1 ∨ sideG (G[i]'h) r = (G[i]'h).2 := fun r => by unfold sideG; split <;> simp
  have hst : ∀ r, tmM m T G G.length (sideG (G[i]'h) r) = tmM m T G i (sideG (G[i]'h) r) := fun r => by
    rcases hs r with e | e <;> rw [e]
    · exact tm_stay m T G g1 _ (by omega)
    · exact tm_stay m T G g2 _ (by omega)
  have hne : ∀ r, sideG (G[i]'h) r ≠ (1, ((i : Nat) : Int)) := fun r => by
    have key : ∀ x : Int × Int, rng (T : Nat) x (i : Nat) → x ≠ (1, ((i : Nat) : Int)) := by
      rintro x hx rfl
      unfold rng at hx; dsimp only at hx; rw [if_neg (by omega)] at hx; omega
    rcases hs r with e | e <;> rw [e]
    · exact key _ g1
    · exact key _ g2
  have hn := tm_none m T G a ha i ((i : Nat) : Int) (Int.le_refl _)
  unfold gameM
  cases hmi : m ((i : Nat) : Int) with
  | none => exact hn
  | some r =>
    dsimp only
    rw [hst]
    rcases ha with rfl | rfl
    · rw [if_neg (show ¬ (1 : Int) = 2 by omega)]
      cases hA : tmM m T G i (sideG (G[i]'h) r) with
      | none =>
        dsimp only
        cases hB : tmM m T G i (sideG (G[i]'h) (1 - r)) with
        | none => exact hn
        | some t => dsimp only; unfold upd; rw [if_neg (by simp)]; exact hn
      | some t =>
        dsimp only
        cases hB : upd (tmM m T G i) (1, ((i : Nat) : Int)) t (sideG (G[i]'h) (1 - r)) with
        | none => exact if_pos rfl
        | some t' => dsimp only; unfold upd; rw [if_neg (by simp)]; exact if_pos rfl
    · rw [if_pos rfl]
      cases hA : tmM m T G i (sideG (G[i]'h) r) with
      | none =>
        dsimp only
        cases hB : tmM m T G i (sideG (G[i]'h) (1 - r)) with
        | none => exact hn
        | some t => dsimp only; unfold upd; rw [if_pos rfl]
      | some t =>
        dsimp only
        have hu : upd (tmM m T G i) (1, ((i : Nat) : Int)) t (sideG (G[i]'h) (1 - r)) = tmM m T G i (sideG (G[i]'h) (1 - r)) := by unfold upd; rw [if_neg (hne (1 - r))]
        rw [hu]
        cases hB : tmM m T G i (sideG (G[i]'h) (1 - r)) with
        | none => dsimp only; unfold upd; rw [if_neg (by simp)]; exact hn
        | some t' => dsimp only; unfold upd; rw [if_pos rfl]
theorem tm_seed (m : Int → Option Int) (T : Nat) (G : List Gm) (t : Int) (h : 0 ≤ t ∧ t < T) : tmM m T G G.length (0, t) = some t := by
  have hr : rng (T : Nat) (0, t) ((0 : Nat) : Int) := by unfold rng; dsimp only; rw [if_pos rfl]; omega
  rw [tm_stay m T G hr G.length (Nat.zero_le _)]
  exact sedM_get T t h.1 h.2
end Go.Proofs.Ytlfbbofcnonhdaa
