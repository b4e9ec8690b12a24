/- Plain law: places do not depend on the order of reports; some game is always ready; at the end each team has one place. -/
import Derived.Test.YtlfbbofcnonhdaaPq
import Derived.Test.YtlfbbofcnonhdaaPn
import Derived.Test.YtlfbbofcnonhdaaCe
namespace Go.Proofs.Ytlfbbofcnonhdaa
open Go.RowKit Go.Proofs

theorem nd_len {α : Type} [DecidableEq α] : ∀ (l m : List α), l.Nodup → (∀ x ∈ l, x ∈ m) → l.length ≤ m.length
  | [], _, _, _ => Nat.zero_le _
  | a :: l, m, hn, hs => by
    obtain ⟨h1, h2⟩ := List.nodup_cons.1 hn
    have ha := hs a (List.mem_cons_self ..)
    have h3 := nd_len l (m.erase a) h2 (fun x hx => (List.mem_erase_of_ne (fun e => h1 (by rw [← e]; exact hx))).2 (hs x (List.mem_cons_of_mem _ hx)))
    rw [List.length_erase_of_mem ha] at h3
    have := List.length_pos_of_mem ha
    rw [List.length_cons]; omega
theorem nd_perm {α : Type} [DecidableEq α] : ∀ (l m : List α), l.Nodup → (∀ x ∈ l, x ∈ m) → m.length ≤ l.length → l.Perm m
  | [], m, _, _, h => by
    have : m = [] := List.length_eq_zero_iff.1 (Nat.le_zero.1 h)
    subst this; exact List.Perm.refl _
  | a :: l, m, hn, hs, h => by
    obtain ⟨h1, h2⟩ := List.nodup_cons.1 hn
    have ha := hs a (List.mem_cons_self ..)
    have h3 := nd_perm l (m.erase a) h2 (fun x hx => (List.mem_erase_of_ne (fun e => h1 (by rw [← e]; exact hx))).2 (hs x (List.mem_cons_of_mem _ hx))) (by rw [List.length_erase_of_mem ha]; rw [List.length_cons] at h; omega)
    exact (h3.cons a).trans (List.perm_cons_erase ha).symm
/-- The numbers below n. -/
def nums (n : Nat) : List Int := (List.range n).map fun (i : Nat) => (i : Int)
theorem nums_mem {n : Nat} {x : Int} : x ∈ nums n ↔ 0 ≤ x ∧ x < n := by
  unfold nums
  rw [List.mem_map]
  constructor
  · rintro ⟨i, hi, rfl⟩; have := List.mem_range.1 hi; omega
  · intro h; exact ⟨x.toNat, List.mem_range.2 (by omega), by omega⟩
theorem nums_len (n : Nat) : (nums n).length = n := by unfold nums; rw [List.length_map, List.length_range]
theorem nums_succ (n : Nat) : nums (n + 1) = nums n ++ [((n : Nat) : Int)] := by unfold nums; rw [List.range_succ, List.map_append]; rfl
theorem nums_nd : ∀ n, (nums n).Nodup
  | 0 => List.nodup_nil
  | n + 1 => by
    rw [nums_succ, List.nodup_append]
    refine ⟨nums_nd n, List.nodup_cons.2 ⟨List.not_mem_nil, List.nodup_nil⟩, ?_⟩
    intro a ha b hb
    rw [List.mem_singleton] at hb
    have := nums_mem.1 ha
    omega
/-- These games have results. -/
def mSet (wn : Nat → Int) (S : List Int) : Int → Option Int := fun i => if i ∈ S then some (wn i.toNat) else none
theorem mSet_v {wn : Nat → Int} (hw : ∀ i, wn i = 0 ∨ wn i = 1) (S : List Int) : ∀ i r, mSet wn S i = some r → r = 0 ∨ r = 1 := by
  intro i r h
  unfold mSet at h
  split at h
  · injection h with h; subst h; exact hw _
  · cases h
theorem mSet_same {wn : Nat → Int} {S S' : List Int} (h : ∀ i, i ∈ S ↔ i ∈ S') : mSet wn S = mSet wn S' := by
  funext i; unfold mSet
  by_cases e : i ∈ S
  · rw [if_pos e, if_pos ((h i).1 e)]
  · rw [if_neg e, if_neg (fun g => e ((h i).2 g))]
theorem mSet_nil (wn : Nat → Int) : mSet wn [] = fun _ => none := rfl
theorem mSet_rep {wn : Nat → Int} (hw : ∀ i, wn i = 0 ∨ wn i = 1) {G : List Gm} {S : List Int} {i : Int} (h : 0 ≤ i ∧ i < G.length) (hn : i ∉ S) : repE G (mSet wn S) i (wn i.toNat) = 0 ∧ repM G (mSet wn S) i (wn i.toNat) = mSet wn (S ++ [i]) := by
  have h0 : repE G (mSet wn S) i (wn i.toNat) = 0 := by
    unfold repE
    rw [if_neg (by omega), if_neg (by rcases hw i.toNat with e | e <;> omega), if_neg]
    unfold mSet; rw [if_neg hn]; intro h; cases h
  refine ⟨h0, ?_⟩
  unfold repM
  rw [if_pos h0]
  funext y
  unfold upd mSet
  by_cases e : y = i
  · subst e; rw [if_pos rfl, if_pos (List.mem_append_right _ (List.mem_singleton.2 rfl))]
  · rw [if_neg e]
    by_cases e2 : y ∈ S
    · rw [if_pos e2, if_pos (List.mem_append_left _ e2)]
    · rw [if_neg e2, if_neg (fun g => by rcases List.mem_append.1 g with g | g; exact e2 g; exact e (List.mem_singleton.1 g))]
section
variable {m : Int → Option Int} {T : Nat} {G : List Gm} {R : List (Int × Int)}
/-- Where all games ahead have results the team is known. -/
theorem tm_kn (hm : ∀ i r, m i = some r → r = 0 ∨ r = 1) (hg : ∀ i (h : i < G.length), rng (T : Nat) (G[i]'h).1 (i : Nat) ∧ rng (T : Nat) (G[i]'h).2 (i : Nat)) : ∀ k : Nat, k ≤ G.length → (∀ i : Nat, i < k → (m (i : Nat)).isSome = true) → ∀ x : Int × Int, rng (T : Nat) x (k : Nat) → ∃ t, tmM m T G G.length x = some t ∧ 0 ≤ t ∧ t < T := by
  intro k
  induction k using Nat.strongRecOn with
  | _ k ih =>
    intro hk hall x hx
    by_cases h0 : x.1 = 0
    · unfold rng at hx
      rw [if_pos h0] at hx
      have e : x = (0, x.2) := Prod.ext h0 rfl
      refine ⟨x.2, ?_, by omega, by omega⟩
      rw [e]; exact tm_seed m T G x.2 (by omega)
    · unfold rng at hx
      rw [if_neg h0] at hx
      obtain ⟨i, hi⟩ := Int.eq_ofNat_of_zero_le hx.2.1
      have hik : i < k := by omega
      have hlt : i < G.length := by omega
      have e : x = (x.1, ((i : Nat) : Int)) := Prod.ext rfl hi
      rw [e, tm_rec hm hg hlt x.1 (by omega)]
      have h1 := hall i hik
      cases hmi : m ((i : Nat) : Int) with
      | none => rw [hmi] at h1; cases h1
      | some r =>
        dsimp only
        obtain ⟨g1, g2⟩ := hg i hlt
        have hs : ∀ r, sideG (G[i]'hlt) r = (G[i]'hlt).1 ∨ sideG (G[i]'hlt) r = (G[i]'hlt).2 := fun r => by unfold sideG; split <;> simp
        apply ih i hik (by omega) (fun j hj => hall j (by omega))
        rcases hs (if x.1 = 2 then 1 - r else r) with e | e <;> rw [e]
        · exact g1
        · exact g2
theorem rd_mem (m : Int → Option Int) (f : Int × Int → Option Int) (G : List Gm) (k : Nat) (x : Int) (h : x ∈ rdL m f G k) : (0 ≤ x ∧ x < k) ∧ m x = none := by
  unfold rdL at h
  obtain ⟨i, hi, rfl⟩ := List.mem_map.1 h
  obtain ⟨h1, h2⟩ := List.mem_filter.1 hi
  have := List.mem_range.1 h1
  unfold rdB at h2
  rw [Bool.and_eq_true, Bool.and_eq_true] at h2
  refine ⟨by omega, ?_⟩
  cases hm : m ((i : Nat) : Int) with
  | none => rfl
  | some r => rw [hm] at h2; exact absurd h2.1.1 (fun h => by cases h)
theorem rd_nil {f : Int × Int → Option Int} {k : Nat} (h : ∀ x : Int, 0 ≤ x ∧ x < k → (m x).isSome = true) : rdL m f G k = [] := by
  cases hl : rdL m f G k with
  | nil => rfl
  | cons x l =>
    obtain ⟨h1, h2⟩ := rd_mem m f G k x (by rw [hl]; exact List.mem_cons_self ..)
    have := h x h1
    rw [h2] at this; cases this
theorem least {P : Nat → Prop} : ∀ n, P n → ∃ k, P k ∧ ∀ i, i < k → ¬ P i := by
  intro n
  induction n using Nat.strongRecOn with
  | _ n ih =>
    intro h
    rcases Classical.em (∃ i, i < n ∧ P i) with ⟨i, hi, hp⟩ | hn
    · exact ih i hi hp
    · exact ⟨n, h, fun i hi hp => hn ⟨i, hi, hp⟩⟩
/-- Some game is ready as long as not all have results. -/
theorem rd_ne (hm : ∀ i r, m i = some r → r = 0 ∨ r = 1) (hg : ∀ i (h : i < G.length), rng (T : Nat) (G[i]'h).1 (i : Nat) ∧ rng (T : Nat) (G[i]'h).2 (i : Nat)) {g : Nat} (hlt : g < G.length) (hn : m (g : Nat) = none) : rdL m (tmM m T G G.length) G G.length ≠ [] := by
  obtain ⟨k, ⟨k1, k2⟩, k3⟩ := least (P := fun k => k < G.length ∧ m (k : Nat) = none) g ⟨hlt, hn⟩
  have hall : ∀ i : Nat, i < k → (m (i : Nat)).isSome = true := fun i hi => by
    cases e : m ((i : Nat) : Int) with
    | none => exact absurd ⟨by omega, e⟩ (k3 i hi)
    | some r => rfl
  obtain ⟨g1, g2⟩ := hg k k1
  obtain ⟨t, t1, t2, -⟩ := tm_kn hm hg k (by omega) hall _ g1
  obtain ⟨u, u1, u2, -⟩ := tm_kn hm hg k (by omega) hall _ g2
  have hgd : G.getD k ((0, 0), (0, 0)) = G[k]'k1 := by rw [List.getD_eq_getElem?_getD, List.getElem?_eq_getElem k1]; rfl
  have hb : rdB m (tmM m T G G.length) G k = true := by
    unfold rdB atM
    rw [hgd, t1, u1, k2]
    show (true && decide (0 ≤ t) && decide (0 ≤ u)) = true
    rw [decide_eq_true t2, decide_eq_true u2]; rfl
  have hmem : ((k : Nat) : Int) ∈ rdL m (tmM m T G G.length) G G.length := List.mem_map.2 ⟨k, List.mem_filter.2 ⟨List.mem_range.2 k1, hb⟩, rfl⟩
  intro e
  rw [e] at hmem
  exact List.not_mem_nil hmem
theorem rng_base {x : Int × Int} {n : Nat} (h : rng (T : Nat) x (n : Nat)) : x ∈ seedL T ++ wlL n := by
  obtain ⟨x1, x2⟩ := x
  unfold rng at h
  dsimp only at h
  by_cases h0 : x1 = 0
  · rw [if_pos h0] at h
    subst h0
    exact List.mem_append_left _ (List.mem_map.2 ⟨x2.toNat, List.mem_range.2 (by omega), by rw [Int.toNat_of_nonneg h.2.1]⟩)
  · rw [if_neg h0] at h
    refine List.mem_append_right _ (List.mem_flatMap.2 ⟨x2.toNat, List.mem_range.2 (by omega), ?_⟩)
    have e : ((x2.toNat : Nat) : Int) = x2 := Int.toNat_of_nonneg h.2.1
    rw [e]
    have : x1 = 1 ∨ x1 = 2 := by omega
    rcases this with rfl | rfl <;> simp
theorem wlL_len : ∀ n, (wlL n).length = 2 * n
  | 0 => rfl
  | n + 1 => by
    have h := wlL_len n
    unfold wlL at h ⊢
    rw [List.range_succ, List.flatMap_append, List.length_append, h]
    simp only [List.flatMap_cons, List.flatMap_nil, List.append_nil, List.length_cons, List.length_nil]
    omega
theorem BrOk.perm (hb : BrOk (T : Nat) G R) : (flG G ++ R).Perm (seedL T ++ wlL G.length) := by
  refine nd_perm _ _ hb.nd (fun x hx => ?_) ?_
  · rcases List.mem_append.1 hx with h | h
    · obtain ⟨i, hi, h⟩ := flG_mem.1 h
      obtain ⟨g1, g2⟩ := hb.gm i hi
      have up : ∀ y : Int × Int, rng (T : Nat) y (i : Nat) → rng (T : Nat) y (G.length : Nat) := fun y hy => by
        unfold rng at hy ⊢
        split at hy
        · rename_i e; rw [if_pos e]; exact hy
        · rename_i e; rw [if_neg e]; omega
      rcases h with rfl | rfl
      · exact rng_base (up _ g1)
      · exact rng_base (up _ g2)
    · exact rng_base (hb.pl x h)
  · rw [List.length_append, List.length_append, flG_len, wlL_len, seedL_len]
    have := hb.r
    omega
/-- Each game hands on the teams that it takes. -/
theorem wl_perm (hm : ∀ i r, m i = some r → r = 0 ∨ r = 1) (hg : ∀ i (h : i < G.length), rng (T : Nat) (G[i]'h).1 (i : Nat) ∧ rng (T : Nat) (G[i]'h).2 (i : Nat)) (hall : ∀ i : Nat, i < G.length → (m (i : Nat)).isSome = true) : ∀ k, k ≤ G.length → ((wlL k).map (atM (tmM m T G G.length))).Perm ((flG (G.take k)).map (atM (tmM m T G G.length)))
  | 0, _ => by rw [List.take_zero]; exact List.Perm.refl _
  | k + 1, hk => by
    have ih := wl_perm hm hg hall k (by omega)
    have hlt : k < G.length := by omega
    have e1 : wlL (k + 1) = wlL k ++ [((1 : Int), ((k : Nat) : Int)), ((2 : Int), ((k : Nat) : Int))] := by unfold wlL; rw [List.range_succ, List.flatMap_append]; rfl
    have e2 : flG (G.take (k + 1)) = flG (G.take k) ++ [(G[k]'hlt).1, (G[k]'hlt).2] := by
      unfold flG; rw [List.take_succ_eq_append_getElem hlt, List.flatMap_append]; rfl
    rw [e1, e2, List.map_append, List.map_append]
    refine ih.append ?_
    have h1 := hall k hlt
    have r1 := tm_rec hm hg hlt 1 (.inl rfl)
    have r2 := tm_rec hm hg hlt 2 (.inr rfl)
    cases hmi : m ((k : Nat) : Int) with
    | none => rw [hmi] at h1; cases h1
    | some r =>
      rw [hmi] at r1 r2
      dsimp only at r1 r2
      rw [if_neg (by omega)] at r1
      rw [if_pos rfl] at r2
      show List.Perm [atM (tmM m T G G.length) (1, ((k : Nat) : Int)), atM (tmM m T G G.length) (2, ((k : Nat) : Int))] [atM (tmM m T G G.length) (G[k]'hlt).1, atM (tmM m T G G.length) (G[k]'hlt).2]
      unfold atM
      rw [r1, r2]
      rcases hm _ _ hmi with rfl | rfl
      · exact List.Perm.refl _
      · exact List.Perm.swap _ _ _
/-- At the end the places are the teams, in some order. -/
theorem plc_perm (hb : BrOk (T : Nat) G R) (hm : ∀ i r, m i = some r → r = 0 ∨ r = 1) (hall : ∀ i : Nat, i < G.length → (m (i : Nat)).isSome = true) : (plcL (tmM m T G G.length) R).Perm (nums T) := by
  have h1 := hb.perm.map (atM (tmM m T G G.length))
  have h2 := wl_perm hm hb.gm hall G.length (Nat.le_refl _)
  rw [List.take_length] at h2
  rw [List.map_append, List.map_append] at h1
  have h3 : (seedL T).map (atM (tmM m T G G.length)) = nums T := by
    unfold seedL nums
    rw [List.map_map]
    refine List.map_congr_left fun t ht => ?_
    have := List.mem_range.1 ht
    show atM (tmM m T G G.length) (0, ((t : Nat) : Int)) = ((t : Nat) : Int)
    unfold atM
    rw [tm_seed m T G _ (by omega)]; rfl
  rw [h3] at h1
  have h4 : ((flG G).map (atM (tmM m T G G.length)) ++ R.map (atM (tmM m T G G.length))).Perm ((flG G).map (atM (tmM m T G G.length)) ++ nums T) :=
    h1.trans ((List.perm_append_comm).trans (h2.append_right _))
  exact (List.perm_append_left_iff _).1 h4
end
/-- A list of different games that has not all of them. -/
theorem miss {n : Nat} {S : List Int} (h : S.length < n) : ∃ g : Nat, g < n ∧ ((g : Nat) : Int) ∉ S := by
  rcases Classical.em (∃ g : Nat, g < n ∧ ((g : Nat) : Int) ∉ S) with h1 | h1
  · exact h1
  · exfalso
    have := nd_len (nums n) S (nums_nd n) (fun x hx => by
      have hx := nums_mem.1 hx
      rcases Classical.em (x ∈ S) with h2 | h2
      · exact h2
      · exact absurd ⟨x.toNat, by omega, by rw [Int.toNat_of_nonneg hx.1]; exact h2⟩ h1)
    rw [nums_len] at this
    omega
theorem all_in {n : Nat} {S : List Int} (hn : S.Nodup) (hs : ∀ x ∈ S, 0 ≤ x ∧ x < n) (h : S.length = n) (x : Int) : x ∈ S ↔ 0 ≤ x ∧ x < n :=
  ⟨hs x, fun hx => ((nd_perm S (nums n) hn (fun y hy => nums_mem.2 (hs y hy)) (by rw [nums_len]; omega)).mem_iff).2 (nums_mem.2 hx)⟩
end Go.Proofs.Ytlfbbofcnonhdaa
