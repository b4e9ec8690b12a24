/- Plain law: the count of the program and that of the document are one. -/
import Derived.Test.YtmhlialdbggmdaaGreatDoorRc
namespace Go.Proofs.YtmhlialdbggmdaaGreatDoor
open Go.RowKit Go.Proofs Go.Shelf

theorem bT_spec (l : List St) (t : Int) : ∀ k, (bT l t k = none ∧ ∀ i, i < k → i ∈ hIdx l → teamAt l i ≠ t) ∨
    (∃ m, bT l t k = some m ∧ (∃ i, i < k ∧ i ∈ hIdx l ∧ teamAt l i = t ∧ sqAt l i = m) ∧ ∀ i, i < k → i ∈ hIdx l → teamAt l i = t → m ≤ sqAt l i)
  | 0 => .inl ⟨rfl, fun _ h => by omega⟩
  | k + 1 => by
    have ih := bT_spec l t k
    unfold bT
    by_cases hc : (teamAt l k = t ∧ k ∈ hIdx l) ∧ (bT l t k = none ∨ sqAt l k < (bT l t k).getD 0)
    · rw [if_pos hc]
      refine .inr ⟨_, rfl, ⟨k, by omega, hc.1.2, hc.1.1, rfl⟩, fun i hi h1 h2 => ?_⟩
      by_cases hik : i = k
      · subst hik; exact Int.le_refl _
      · rcases ih with ⟨h3, h4⟩ | ⟨m, h3, -, h4⟩
        · exact absurd h2 (h4 i (by omega) h1)
        · have := h4 i (by omega) h1 h2
          rw [h3] at hc
          rcases hc.2 with h5 | h5
          · cases h5
          · simp at h5; omega
    · rw [if_neg hc]
      rcases ih with ⟨h3, h4⟩ | ⟨m, h3, ⟨i0, h5, h6, h7, h8⟩, h4⟩
      · refine .inl ⟨h3, fun i hi h1 h2 => ?_⟩
        by_cases hik : i = k
        · subst hik; exact hc ⟨⟨h2, h1⟩, .inl h3⟩
        · exact h4 i (by omega) h1 h2
      · refine .inr ⟨m, h3, ⟨i0, by omega, h6, h7, h8⟩, fun i hi h1 h2 => ?_⟩
        by_cases hik : i = k
        · subst hik
          rcases Int.lt_or_le (sqAt l i) m with h | h
          · exact absurd ⟨⟨h2, h1⟩, .inr (by rw [h3]; exact h)⟩ hc
          · exact h
        · exact h4 i (by omega) h1 h2
theorem cK_filter (l : List St) (t : Int) (lim : Option Int) : ∀ k, cK l t lim k = ((List.range k).filter fun i => decide (i ∈ hIdx l) && decide (teamAt l i = t ∧ (lim = none ∨ sqAt l i < lim.getD 0))).length
  | 0 => rfl
  | k + 1 => by
    have ih := cK_filter l t lim k
    unfold cK
    rw [ih, List.range_succ, List.filter_append, List.length_append]
    congr 1
    by_cases hc : (teamAt l k = t ∧ k ∈ hIdx l) ∧ (lim = none ∨ sqAt l k < lim.getD 0)
    · rw [if_pos hc]
      simp [hc.1.1, hc.1.2, hc.2]
    · rw [if_neg hc]
      symm
      rw [List.length_eq_zero_iff, List.filter_eq_nil_iff]
      intro i hi
      rw [List.mem_singleton] at hi
      subst hi
      simp only [Bool.and_eq_true, decide_eq_true_eq]
      exact fun h => hc ⟨⟨h.2.1, h.1⟩, h.2.2⟩
theorem hIdx_lt {l : List St} {i : Nat} (h : i ∈ hIdx l) : i < l.length := by
  unfold hIdx at h
  obtain ⟨y, hy, rfl⟩ := List.mem_map.1 h
  exact (hsK_lt hy).1
theorem near_nodup {l : List St} {d : List Nat} (hd : IsNear l d) : d.Nodup :=
  hd.2.imp fun {a b} h e => by subst e; unfold lx at h; omega
theorem cK_near {l : List St} {d : List Nat} (hd : IsNear l d) (t : Int) (lim : Option Int) : cK l t lim l.length = (d.filter fun i => decide (teamAt l i = t ∧ (lim = none ∨ sqAt l i < lim.getD 0))).length := by
  rw [cK_filter]
  apply List.Perm.length_eq
  refine (List.perm_ext_iff_of_nodup ((List.nodup_range).filter _) ((near_nodup hd).filter _)).2 fun i => ?_
  simp only [List.mem_filter, List.mem_range, Bool.and_eq_true, decide_eq_true_eq]
  constructor
  · rintro ⟨-, h1, h2⟩
    exact ⟨hd.1.mem_iff.2 h1, h2⟩
  · rintro ⟨h1, h2⟩
    have := hd.1.mem_iff.1 h1
    exact ⟨hIdx_lt this, this, h2⟩

theorem fidx_cases {α : Type} (p : α → Bool) (l : List α) : (fidx p l = -1 ∧ ∀ j (hj : j < l.length), p (l[j]'hj) = false) ∨
    ∃ k, ∃ hk : k < l.length, fidx p l = k ∧ p (l[k]'hk) = true ∧ ∀ j (hj : j < k), p (l[j]'(by omega)) = false := by
  by_cases h : l.findIdx p < l.length
  · refine .inr ⟨l.findIdx p, h, by unfold fidx; rw [if_pos h], List.findIdx_getElem, fun j hj => ?_⟩
    have := List.not_of_lt_findIdx hj
    simpa using this
  · refine .inl ⟨by unfold fidx; rw [if_neg h], fun j hj => ?_⟩
    have := List.not_of_lt_findIdx (p := p) (xs := l) (i := j) (by omega)
    simpa using this
theorem near_mono {l : List St} {d : List Nat} (hd : IsNear l d) {i j : Nat} (hj : j < d.length) (hij : i ≤ j) : sqAt l (d[i]'(by omega)) ≤ sqAt l (d[j]'hj) := by
  by_cases e : i = j
  · subst e; exact Int.le_refl _
  · have := List.pairwise_iff_getElem.1 hd.2 i j (by omega) hj (by omega)
    unfold lx at this; omega
/-- A team's nearest stone, by the order d. -/
theorem bT_none {l : List St} {d : List Nat} (hd : IsNear l d) {t : Int} (h : ∀ i ∈ d, teamAt l i ≠ t) : bT l t l.length = none := by
  rcases bT_spec l t l.length with ⟨h1, -⟩ | ⟨m, -, ⟨i, -, h2, h3, -⟩, -⟩
  · exact h1
  · exact absurd h3 (h i (hd.1.mem_iff.2 h2))
theorem bT_some {l : List St} {d : List Nat} (hd : IsNear l d) {t : Int} {k : Nat} (hk : k < d.length) (h1 : teamAt l (d[k]'hk) = t) (h2 : ∀ j (hj : j < k), teamAt l (d[j]'(by omega)) ≠ t) :
    bT l t l.length = some (sqAt l (d[k]'hk)) := by
  have hm : d[k]'hk ∈ hIdx l := hd.1.mem_iff.1 (List.getElem_mem _)
  rcases bT_spec l t l.length with ⟨-, h3⟩ | ⟨m, h3, ⟨i, hi, h4, h5, h6⟩, h7⟩
  · exact absurd h1 (h3 _ (hIdx_lt hm) hm)
  · rw [h3]
    have ha := h7 _ (hIdx_lt hm) hm h1
    obtain ⟨j, hj, he⟩ := List.getElem_of_mem (hd.1.mem_iff.2 h4)
    have hkj : k ≤ j := by
      rcases Nat.lt_or_ge j k with h | h
      · exact absurd (by rw [he]; exact h5) (h2 j h)
      · exact h
    have hb := near_mono hd hj hkj
    rw [he, h6] at hb
    rw [show m = sqAt l (d[k]'hk) by omega]
theorem lead_of (P : Nat → Prop) [DecidablePred P] : ∀ d : List Nat, ∃ p, p ≤ d.length ∧ (∀ j (hj : j < d.length), j < p → P (d[j]'hj)) ∧ (p = d.length ∨ ∃ h : p < d.length, ¬ P (d[p]'h))
  | [] => ⟨0, by simp, fun j hj => by simp at hj, .inl rfl⟩
  | a :: d => by
    by_cases ha : P a
    · obtain ⟨p, h1, h2, h3⟩ := lead_of P d
      refine ⟨p + 1, by simpa using h1, fun j hj hjp => ?_, ?_⟩
      · cases j with
        | zero => exact ha
        | succ j => exact h2 j (by simpa using hj) (by omega)
      · rcases h3 with h3 | ⟨h, h3⟩
        · exact .inl (by simp [h3])
        · exact .inr ⟨by simpa using h, by simpa using h3⟩
    · exact ⟨0, by simp, fun j hj h => by omega, .inr ⟨by simp, by simpa using ha⟩⟩
theorem cnt_ref {l : List St} {d : List Nat} (hd : IsNear l d) (ht : ∀ i ∈ d, teamAt l i = 0 ∨ teamAt l i = 1) : cntT l d = refT l := by
  cases hdd : d with
  | nil =>
    subst hdd
    have e0 := bT_none hd (t := 0) (by simp)
    have e1 := bT_none hd (t := 1) (by simp)
    unfold refT; rw [e0, e1]; rfl
  | cons a ds =>
    have hd0 : 0 < d.length := by rw [hdd]; simp
    have e0 : d[0]'hd0 = a := by subst hdd; rfl
    have hc : cntT l d = if fidx (fun i => teamAt l i != teamAt l a) d < 0 then (teamAt l a, ((d.length : Nat) : Int)) else
      if ptsN l d (fidx (fun i => teamAt l i != teamAt l a) d).toNat (sqAt l (d.getD (fidx (fun i => teamAt l i != teamAt l a) d).toNat 0)) = 0 then (-1, 0)
      else (teamAt l a, ((ptsN l d (fidx (fun i => teamAt l i != teamAt l a) d).toNat (sqAt l (d.getD (fidx (fun i => teamAt l i != teamAt l a) d).toNat 0)) : Nat) : Int)) := by subst hdd; rfl
    rw [← hdd]
    rw [hc]
    obtain ⟨T, hT⟩ : ∃ T, teamAt l a = T := ⟨_, rfl⟩
    rw [hT]
    have hT01 : T = 0 ∨ T = 1 := by rw [← hT]; exact ht a (by rw [hdd]; simp)
    have hbT : bT l T l.length = some (sqAt l a) := by
      have := bT_some hd hd0 (t := T) (by rw [e0, hT]) (fun j hj => by omega)
      rwa [e0] at this
    rcases fidx_cases (fun i => teamAt l i != T) d with ⟨h1, h2⟩ | ⟨m, hm, h1, h2, h3⟩
    · rw [h1, if_pos (by omega)]
      have hall : ∀ i ∈ d, teamAt l i = T := fun i hi => by
        obtain ⟨j, hj, rfl⟩ := List.getElem_of_mem hi
        have := h2 j hj
        simpa using this
      have hcK : cK l T none l.length = d.length := by
        rw [cK_near hd, List.filter_eq_self.2]
        intro i hi
        simp [hall i hi]
      unfold refT
      rcases hT01 with rfl | rfl
      · rw [hbT, bT_none hd (t := 1) (fun i hi => by rw [hall i hi]; omega)]
        show _ = ((0 : Int), ((cK l 0 none l.length : Nat) : Int))
        rw [hcK]
      · rw [hbT, bT_none hd (t := 0) (fun i hi => by rw [hall i hi]; omega)]
        show _ = ((1 : Int), ((cK l 1 none l.length : Nat) : Int))
        rw [hcK]
    · rw [h1, if_neg (by omega), Int.toNat_natCast]
      have hgd : d.getD m 0 = d[m]'hm := by rw [List.getD_eq_getElem?_getD, List.getElem?_eq_getElem hm]; rfl
      rw [hgd]
      obtain ⟨far, hfar⟩ : ∃ far, sqAt l (d[m]'hm) = far := ⟨_, rfl⟩
      rw [hfar]
      have hbef : ∀ j (hj : j < m), teamAt l (d[j]'(by omega)) = T := fun j hj => by have := h3 j hj; simpa using this
      have hne : teamAt l (d[m]'hm) ≠ T := by simpa using h2
      have hU : teamAt l (d[m]'hm) = 1 - T := by
        have := ht _ (List.getElem_mem hm)
        rcases hT01 with rfl | rfl <;> rcases this with h | h <;> omega
      have hbU : bT l (1 - T) l.length = some far := by
        have := bT_some hd hm (t := 1 - T) hU (fun j hj => by rw [hbef j hj]; rcases hT01 with rfl | rfl <;> omega)
        rwa [hfar] at this
      -- the leading ones
      obtain ⟨p, hpl, hlt, hend⟩ := lead_of (fun i => sqAt l i < far) d
      have hpm : p ≤ m := by
        rcases Nat.lt_or_ge m p with h | h
        · have := hlt m hm h; omega
        · exact h
      have hge : ∀ j (hj : j < d.length), p ≤ j → far ≤ sqAt l (d[j]'hj) := fun j hj hjp => by
        have hpd : p < d.length := by omega
        have h6 : ¬ sqAt l (d[p]'hpd) < far := by
          rcases hend with h | ⟨h, h'⟩
          · omega
          · exact h'
        have := near_mono hd hj hjp
        omega
      have hpts : ptsN l d m far = p := by
        refine ptsN_at (by omega) hpm hlt ?_
        by_cases e : p = m
        · exact .inl e
        · exact .inr ⟨by omega, by have := hge p (by omega) (Nat.le_refl _); omega⟩
      have hcK : cK l T (some far) l.length = p := by
        rw [cK_near hd]
        have hsp : d = d.take p ++ d.drop p := (List.take_append_drop p d).symm
        conv => lhs; rw [hsp]
        rw [List.filter_append, List.length_append, List.filter_eq_self.2, List.filter_eq_nil_iff.2]
        · rw [List.length_take, List.length_nil]; omega
        · intro i hi
          obtain ⟨j, hj, rfl⟩ := List.getElem_of_mem hi
          rw [List.length_drop] at hj
          rw [List.getElem_drop]
          have := hge (p + j) (by omega) (by omega)
          simp
          intro _
          omega
        · intro i hi
          obtain ⟨j, hj, rfl⟩ := List.getElem_of_mem hi
          rw [List.length_take] at hj
          rw [List.getElem_take]
          simp [hbef j (by omega), hlt j (by omega) (by omega)]
      rw [hpts]
      have h0 : sqAt l a ≤ far := by
        have := near_mono hd hm (Nat.zero_le m)
        rw [e0, hfar] at this; exact this
      have hp0 : p = 0 ↔ sqAt l a = far := by
        constructor
        · intro h
          have := hge 0 hd0 (by omega)
          rw [e0] at this; omega
        · intro h
          rcases Nat.eq_zero_or_pos p with h' | h'
          · exact h'
          · have := hlt 0 hd0 h'
            rw [e0] at this; omega
      unfold refT
      rcases hT01 with rfl | rfl
      · have hb1 : bT l 1 l.length = some far := hbU
        rw [hbT, hb1]
        show _ = (if sqAt l a = far then _ else if far < sqAt l a then _ else _ : Int × Int)
        by_cases hp1 : p = 0
        · rw [if_pos hp1, if_pos (hp0.1 hp1)]
        · rw [if_neg hp1, if_neg (fun h => hp1 (hp0.2 h)), if_neg (by omega), hcK]
      · have : bT l 0 l.length = some far := hbU
        rw [hbT, this]
        show _ = (if far = sqAt l a then _ else if sqAt l a < far then _ else _ : Int × Int)
        by_cases hp1 : p = 0
        · rw [if_pos hp1, if_pos (hp0.1 hp1).symm]
        · rw [if_neg hp1, if_neg (fun h => hp1 (hp0.2 h.symm)), if_pos (by have := fun h => hp1 (hp0.2 h); omega), hcK]
end Go.Proofs.YtmhlialdbggmdaaGreatDoor
