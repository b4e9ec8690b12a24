/- Plain law: strings that strictly rise; those of a list. -/
import Derived.Test.YtjkolebffbeeeaaGreatDoorWv
namespace Go.Proofs.YtjkolebffbeeeaaGreatDoor
open Go Go.RowKit Go.Proofs
attribute [local irreducible] J JQ JL JA JD

theorem bs8_bl (x : ByteArray) : bs8 (bl x) = x := by cases x; rfl
theorem ltS_bl (x y : ByteArray) : ltS x y = decide (bl x < bl y) := by
 have := ltS_lt (bl x) (bl y)
 rwa [bs8_bl, bs8_bl] at this
theorem ltS_tr {x y z : ByteArray} (h1 : ltS x y = true) (h2 : ltS y z = true) : ltS x z = true := by
 rw [ltS_bl, decide_eq_true_eq] at h1 h2 ⊢
 exact List.lt_trans h1 h2
theorem ltS_as {x y : ByteArray} (h1 : ltS x y = true) (h2 : ltS y x = true) : False := by
 have := ltS_tr h1 h2
 rw [ltS_irr] at this; cases this
/-- Of two lists that strictly rise and have the same strings each is the other. -/
theorem up_uniq : ∀ {L M : List ByteArray}, L.Pairwise (fun x y => ltS x y = true) → M.Pairwise (fun x y => ltS x y = true) → (∀ x, x ∈ L ↔ x ∈ M) → L = M
 | [], [], _, _, _ => rfl
 | [], y :: M, _, _, h => by have := (h y).2 List.mem_cons_self; cases this
 | x :: L, [], _, _, h => by have := (h x).1 List.mem_cons_self; cases this
 | x :: L, y :: M, h1, h2, h => by
  obtain ⟨h3, h4⟩ := List.pairwise_cons.1 h1
  obtain ⟨h5, h6⟩ := List.pairwise_cons.1 h2
  have e : x = y := by
   rcases List.mem_cons.1 ((h x).1 List.mem_cons_self) with e | e
   ·exact e
   ·rcases List.mem_cons.1 ((h y).2 List.mem_cons_self) with e' | e'
    ·exact e'.symm
    ·exact (ltS_as (h5 x e) (h3 y e')).elim
  subst e
  rw [up_uniq h4 h6 (fun z => ?_)]
  have hz := h z
  rw [List.mem_cons, List.mem_cons] at hz
  constructor
  ·intro hm
   rcases hz.1 (.inr hm) with rfl | h'
   ·have := h3 z hm; rw [ltS_irr] at this; cases this
   ·exact h'
  ·intro hm
   rcases hz.2 (.inr hm) with rfl | h'
   ·have := h5 z hm; rw [ltS_irr] at this; cases this
   ·exact h'
theorem SoP.uniq {S L M : List ByteArray} (h : SoP S L) (h' : SoP S M) : L = M := up_uniq h.up h'.up (fun x => (h.mem x).trans (h'.mem x).symm)
theorem at_take (x : ByteArray) (L : List ByteArray) : L.take (atR x L) = L.takeWhile (fun y => ltS y x) := by
 have h : ∀ A D : List ByteArray, A ++ D = L → L.take A.length = A := by rintro A D rfl; exact List.take_left' rfl
 exact h _ _ List.takeWhile_append_dropWhile
theorem at_drop (x : ByteArray) (L : List ByteArray) : L.drop (atR x L) = L.dropWhile (fun y => ltS y x) := by
 have h : L = L.takeWhile (fun y => ltS y x) ++ L.dropWhile (fun y => ltS y x) := List.takeWhile_append_dropWhile.symm
 have h2 : L.take (atR x L) ++ L.drop (atR x L) = L := List.take_append_drop _ _
 rw [at_take] at h2
 exact List.append_cancel_left (h2.trans h)
theorem insR_mem (x z : ByteArray) (L : List ByteArray) : z ∈ insR x L ↔ z = x ∨ z ∈ L := by
 unfold insR; split
 ·rename_i h
  have hm : x ∈ L := List.mem_of_getElem? h
  exact ⟨.inr, fun h => h.elim (fun e => e ▸ hm) id⟩
 ·have h2 : L.take (atR x L) ++ L.drop (atR x L) = L := List.take_append_drop _ _
  conv => rhs; rw [← h2]
  simp only [List.nil_append, List.mem_append, List.mem_singleton]
  constructor
  ·rintro ((h | h) | h)
   ·exact .inr (.inl h)
   ·exact .inl h
   ·exact .inr (.inr h)
  ·rintro (h | h | h)
   ·exact .inl (.inr h)
   ·exact .inl (.inl h)
   ·exact .inr h
theorem insR_up {x : ByteArray} {L : List ByteArray} (h : L.Pairwise (fun x y => ltS x y = true)) : (insR x L).Pairwise (fun x y => ltS x y = true) := by
 unfold insR; split
 ·exact h
 ·rename_i hne
  have h2 : L.take (atR x L) ++ L.drop (atR x L) = L := List.take_append_drop _ _
  rw [← h2] at h
  obtain ⟨ha, hb, hab⟩ := List.pairwise_append.1 h
  have hl : ∀ y ∈ L.take (atR x L), ltS y x = true := by
   rw [at_take]; intro y hy; exact (List.all_takeWhile (p := fun y => ltS y x) (l := L) ▸ List.all_eq_true.1 (List.all_takeWhile (p := fun y => ltS y x) (l := L)) y hy)
  have hg : ∀ y ∈ L.drop (atR x L), ltS x y = true := by
   cases hd : L.drop (atR x L) with
   | nil => intro y hy; cases hy
   | cons z r =>
    have hz0 : L[atR x L]? = some z := by rw [← List.head?_drop, hd]; rfl
    have hz1 : z ≠ x := fun e => hne (by rw [hz0, e])
    have hz2 : ltS z x = false := by
     rw [at_drop] at hd
     have := List.head?_dropWhile_not (fun y => ltS y x) L
     rw [hd] at this
     simpa using this
    have hz3 : ltS x z = true := by
     have := ltS_tot z x
     rw [hz2, decide_eq_false hz1] at this
     cases hx : ltS x z with
     | true => rfl
     | false => rw [hx] at this; cases this
    rw [hd] at hb
    obtain ⟨hb1, -⟩ := List.pairwise_cons.1 hb
    intro y hy
    rcases List.mem_cons.1 hy with rfl | hy
    ·exact hz3
    ·exact ltS_tr hz3 (hb1 y hy)
  rw [List.nil_append, List.append_assoc]
  refine List.pairwise_append.2 ⟨ha, ?_, fun a ha' b hb' => ?_⟩
  ·rw [List.singleton_append]
   exact List.pairwise_cons.2 ⟨hg, hb⟩
  ·rw [List.singleton_append] at hb'
   rcases List.mem_cons.1 hb' with rfl | hb'
   ·exact hl a ha'
   ·exact hab a ha' b hb'
theorem ris_fold : ∀ (l L : List ByteArray), L.Pairwise (fun x y => ltS x y = true) → (l.foldl (fun L x => insR x L) L).Pairwise (fun x y => ltS x y = true) ∧ ∀ z, z ∈ l.foldl (fun L x => insR x L) L ↔ z ∈ l ∨ z ∈ L
 | [], L, h => ⟨h, fun z => ⟨.inr, fun h => h.elim (fun h => (by cases h)) id⟩⟩
 | x :: l, L, h => by
  obtain ⟨h1, h2⟩ := ris_fold l (insR x L) (insR_up h)
  refine ⟨h1, fun z => ?_⟩
  show z ∈ l.foldl (fun L x => insR x L) (insR x L) ↔ _
  rw [h2 z, insR_mem, List.mem_cons]
  constructor
  ·rintro (h | h | h)
   ·exact .inl (.inr h)
   ·exact .inl (.inl h)
   ·exact .inr h
  ·rintro ((h | h) | h)
   ·exact .inr (.inl h)
   ·exact .inl h
   ·exact .inr (.inr h)
theorem sop_ris (l : List ByteArray) : SoP l (risF l) := by
 obtain ⟨h1, h2⟩ := ris_fold l [] List.Pairwise.nil
 refine ⟨h1, fun x => by rw [show risF l = l.foldl (fun L x => insR x L) [] from rfl, h2 x]; simp, ?_⟩
 have := risF_len l l.length (Nat.le_refl _)
 rwa [List.take_length] at this
theorem SoP.congr {S T L : List ByteArray} (h : SoP S L) (he : ∀ x, x ∈ S ↔ x ∈ T) (hl : S.length = T.length) : SoP T L := ⟨h.up, fun x => (h.mem x).trans (he x), by have := h.len; omega⟩
theorem sop_rev (S : List ByteArray) : SoP S (risF S.reverse) := (sop_ris S.reverse).congr (fun _ => List.mem_reverse) (List.length_reverse)

end Go.Proofs.YtjkolebffbeeeaaGreatDoor
