/- Plain: stones with distinct names have one sorted list. -/
import Derived.Test.YtomcpgdpjpjioaaSr
import Derived.Test.YtomcpgdpjpjioaaEq
namespace Go.Proofs.Ytomcpgdpjpjioaa
open Go.RowKit Go.Proofs Go.Shelf

/-- The stones, sorted by their names. -/
def srt (l : List St) : List St := l.mergeSort (fun a b => decide (kyS a ≤ kyS b))
theorem srt_perm (l : List St) : (srt l).Perm l := List.mergeSort_perm _ _
theorem srt_pw (l : List St) : (srt l).Pairwise (fun a b => kyS a ≤ kyS b) := by
  have h := List.pairwise_mergeSort (le := fun a b => decide (kyS a ≤ kyS b)) (fun a b c h1 h2 => by simp only [decide_eq_true_eq] at *; omega) (fun a b => by simp only [Bool.or_eq_true, decide_eq_true_eq]; omega) l
  exact h.imp (fun h => by simpa using h)
/-- No two stones of a list have a name in common. -/
def dis (l : List St) : Prop := ∀ a ∈ l, ∀ b ∈ l, a.t = b.t → a.n = b.n → a = b
theorem srt_uniq {l l' : List St} (hb : ∀ s ∈ l, bnd s) (hd : dis l) (hp : l'.Perm l) (hs : l'.Pairwise (fun a b => kyS a ≤ kyS b)) : l' = srt l := by
  refine List.Perm.eq_of_pairwise (le := fun a b => kyS a ≤ kyS b) ?_ hs (srt_pw l) (hp.trans (srt_perm l).symm)
  intro a b ha hb' h1 h2
  have ha' := hp.mem_iff.1 ha
  have hb2 := (srt_perm l).mem_iff.1 hb'
  have k1 := hb a ha'
  have k2 := hb b hb2
  unfold bnd at k1 k2
  unfold kyS at h1 h2
  exact hd a ha' b hb2 (by omega) (by omega)
theorem good_names {l : List St} : ∀ {k : Nat}, k ≤ l.length → goodF (l.take k) (l.drop k) = true → ∀ j (hj : j < l.length), k ≤ j → ∀ i (hi : i < j), nameB (l[i]'(by omega)) (l[j]'hj) = false := by
  intro k hk h j hj hkj
  induction hd : l.length - k generalizing k with
  | zero => omega
  | succ n ih =>
    have hlt : k < l.length := by omega
    rw [goodF_step hlt, Bool.and_eq_true, Bool.and_eq_true] at h
    by_cases e : j = k
    · subst e
      intro i hi
      have h2 := List.all_eq_true.1 h.1.2 (l[i]'(by omega)) (by rw [List.mem_take_iff_getElem]; exact ⟨i, by omega, rfl⟩)
      simpa using h2
    · exact ih (k := k + 1) (by omega) h.2 (by omega) (by omega)
theorem chk_dis {l : List St} (h : chkB l = true) : dis l := by
  unfold chkB at h
  rw [Bool.and_eq_true, Bool.and_eq_true] at h
  have hn := good_names (l := l) (k := 0) (by omega) h.1.2
  intro a ha b hb e1 e2
  obtain ⟨i, hi, rfl⟩ := List.getElem_of_mem ha
  obtain ⟨j, hj, rfl⟩ := List.getElem_of_mem hb
  rcases Nat.lt_trichotomy i j with h3 | h3 | h3
  · have := hn j hj (by omega) i h3
    simp [nameB, e1, e2] at this
  · subst h3; rfl
  · have := hn i hi (by omega) j h3
    simp [nameB, e1, e2] at this
theorem chk_bnd {l : List St} (h : chkB l = true) : ∀ s ∈ l, bnd s := by
  intro s hs
  obtain ⟨j, hj, rfl⟩ := List.getElem_of_mem hs
  have := (chk_facts h).2 j hj
  unfold okSt at this
  exact this.1
theorem srt_len (l : List St) : (srt l).length = l.length := (srt_perm l).length_eq
end Go.Proofs.Ytomcpgdpjpjioaa
