/- Plain law: the program's order of teams is the document's, for valid results. -/
import Derived.Test.YtlfbbofcnonhdaaSf
namespace Go.Proofs.Ytlfbbofcnonhdaa
open Go.RowKit Go.Proofs

/-- Valid results. -/
structure Vl (l : List Re) : Prop where
  b : ∀ x ∈ l, ReB x
  ab : ∀ x ∈ l, x.a ≠ x.b
  pp : ∀ x ∈ l, x.p0 ≠ x.p1
  nd : (l.map keyR).Nodup
  n : l.length ≤ 300
theorem okR_nd {T : Int} : ∀ {s : List (Int × Int)} {l : List Re}, okR T s l = true → (l.map keyR).Nodup ∧ ∀ k ∈ l.map keyR, k ∉ s
  | s, [], _ => ⟨by simp, by simp⟩
  | s, x :: l, h => by
    unfold okR at h
    simp only [Bool.and_eq_true, Bool.not_eq_true', List.contains_eq_mem, decide_eq_false_iff_not] at h
    obtain ⟨h1, h2⟩ := okR_nd h.2
    refine ⟨?_, ?_⟩
    · rw [List.map_cons, List.nodup_cons]
      exact ⟨fun hm => h2 _ hm (by simp), h1⟩
    · intro k hk
      rw [List.map_cons, List.mem_cons] at hk
      rcases hk with rfl | hk
      · exact h.1.2
      · exact fun hs => h2 k hk (by simp [hs])
theorem vl_of {T : Int} {l : List Re} (h : chkE T l = 0) : Vl l := by
  obtain ⟨h1, h2, h3⟩ := chk_ok h
  have h4 : okR T [] l = true := by
    unfold chkE at h
    rw [if_neg (by omega), if_neg (by omega)] at h
    split at h
    · assumption
    · omega
  exact ⟨fun x hx => (vld_b (h3 x hx)).1, fun x hx => (vld_b (h3 x hx)).2.2.2.1, fun x hx => (vld_b (h3 x hx)).2.2.2.2, (okR_nd h4).1, h2⟩
/-! Rows. -/
theorem add_ref (x : Re) (t : Int) (r : Rw) (g : Int) (h : x.a ≠ x.b) : (addS 2 x t r, addG 2 x t g) = refR x t (r, g) := by
  show ((if t = sdT 1 x then sideU (if t = sdT 0 x then sideU r (sdP 0 x) (sdP 1 x) (sdM 0 x) else r) (sdP 1 x) (sdP 0 x) (sdM 1 x) else if t = sdT 0 x then sideU r (sdP 0 x) (sdP 1 x) (sdM 0 x) else r),
    (if t = sdT 1 x then max (if t = sdT 0 x then max g (sdM 0 x) else g) (sdM 1 x) else if t = sdT 0 x then max g (sdM 0 x) else g)) = _
  have e0 : sdT 0 x = x.a := rfl
  have e1 : sdT 1 x = x.b := rfl
  rw [e0, e1]
  unfold refR
  by_cases h1 : x.a = t
  · rw [if_pos h1, if_neg (by omega), if_pos h1.symm, if_neg (by omega), if_pos h1.symm]; rfl
  · rw [if_neg h1]
    by_cases h2 : x.b = t
    · rw [if_pos h2, if_pos h2.symm, if_neg (by omega), if_pos h2.symm, if_neg (by omega)]; rfl
    · rw [if_neg h2, if_neg (by omega), if_neg (by omega), if_neg (by omega), if_neg (by omega)]
theorem rows_ref (t : Int) : ∀ (l : List Re) (r : Rw) (g : Int), (∀ x ∈ l, x.a ≠ x.b) → (l.foldl (fun r x => addS 2 x t r) r, l.foldl (fun g x => addG 2 x t g) g) = l.foldl (fun p x => refR x t p) (r, g)
  | [], _, _, _ => rfl
  | x :: l, r, g, h => by
    rw [List.foldl_cons, List.foldl_cons, List.foldl_cons, ← add_ref x t r g (h x (by simp))]
    exact rows_ref t l _ _ (fun y hy => h y (by simp [hy]))
theorem rowN_ref {l : List Re} (h : ∀ x ∈ l, x.a ≠ x.b) : rowN l = refRow l := by
  funext t
  have := rows_ref t l ⟨t, 0, 0, 0, 0, 0, 0, 0⟩ 0 h
  have h1 := congrArg Prod.fst this
  have h2 := congrArg Prod.snd this
  unfold rowN refRow rawN gtN refF
  rw [← h1, ← h2]
/-! By measures. -/
theorem bfR_key {l : List Re} (h : Vl l) (a b : Int) : bfR l a b = true ↔ msK l a < msK l b := by
  rw [← (ms_cvk l h.n h.b (fun _ => True) a b trivial trivial).1]
  have h1 := rowN_bd l a h.b
  have h2 := rowN_bd l b h.b
  unfold bfR
  rw [← rowN_ref h.ab]
  unfold befB msC
  split
  · rw [decide_eq_true_eq]; omega
  · rw [decide_eq_true_eq, (cmpI_lt _ _).1]
theorem bst_min {l : List Re} {key : Int → Int} (hk : ∀ a b, bfR l a b = true ↔ key a < key b) : ∀ (g : List Int) (b : Int), (∀ y ∈ g, key (bst l b g) ≤ key y) ∧ key (bst l b g) ≤ key b
  | [], b => ⟨by simp, Int.le_refl _⟩
  | x :: g, b => by
    have e : bst l b (x :: g) = bst l (if bfR l x b then x else b) g := rfl
    rw [e]
    by_cases h : bfR l x b = true
    · rw [if_pos h]
      obtain ⟨h1, h2⟩ := bst_min hk g x
      have := (hk x b).1 h
      refine ⟨fun y hy => ?_, by omega⟩
      rcases List.mem_cons.1 hy with rfl | hy
      · exact h2
      · exact h1 y hy
    · rw [if_neg h]
      obtain ⟨h1, h2⟩ := bst_min hk g b
      have : ¬ key x < key b := fun h' => h ((hk x b).2 h')
      refine ⟨fun y hy => ?_, h2⟩
      rcases List.mem_cons.1 hy with rfl | hy
      · omega
      · exact h1 y hy
theorem bmF_grpF {l : List Re} {key : Int → Int} (hk : ∀ a b, bfR l a b = true ↔ key a < key b) : ∀ (f : Nat) (g : List Int), bmF l f g = grpF key f g
  | 0, _ => rfl
  | f + 1, [] => rfl
  | f + 1, b :: g => by
    have hmem : bst l b (b :: g) = b ∨ bst l b (b :: g) ∈ b :: g := by
      have := bst_mem l b (b :: g) (b :: g).length (Nat.le_refl _)
      rwa [List.take_length] at this
    have hm : bst l b (b :: g) ∈ b :: g := by
      rcases hmem with e | e
      · rw [e]; simp
      · exact e
    obtain ⟨h1, -⟩ := bst_min hk (b :: g) b
    show bmO l (bst l b (b :: g)) (b :: g) :: bmF l f (bmN l (bst l b (b :: g)) (b :: g)) = _
    generalize bst l b (b :: g) = m at *
    rw [bmF_grpF hk f]
    show _ = if b :: g = [] then [] else _
    rw [if_neg (by simp)]
    have hp : ∀ x ∈ b :: g, bfR l m x = !((b :: g).all fun y => decide (key x ≤ key y)) := by
      intro x hx
      rw [Bool.eq_iff_iff, hk, Bool.not_eq_true', ← Bool.not_eq_true, List.all_eq_true]
      constructor
      · intro hlt hall
        have := of_decide_eq_true (hall m hm)
        omega
      · intro hn
        rcases Int.lt_or_le (key m) (key x) with h' | h'
        · exact h'
        · exact absurd (fun y hy => decide_eq_true (by have := h1 y hy; omega)) hn
    have e1 : bmO l m (b :: g) = (b :: g).filter (fun x => (b :: g).all fun y => decide (key x ≤ key y)) := by
      unfold bmO
      exact List.filter_congr (fun x hx => by rw [hp x hx, Bool.not_not])
    have e2 : bmN l m (b :: g) = (b :: g).filter (fun x => !((b :: g).all fun y => decide (key x ≤ key y))) := by
      unfold bmN
      exact List.filter_congr (fun x hx => hp x hx)
    rw [e1, e2]
/-! By wins. -/
theorem bwF_grp {l : List Re} {g : List Int} (hg : g.Pairwise (· < ·)) {wn : Int → Int} (hw : ∀ t ∈ g, (refRow l t).wins = wn t ∧ 0 ≤ wn t ∧ wn t ≤ l.length) : Grp (fun t => -(wn t)) g (bwF l g (l.length + 1)) := by
  have hin : ∀ d ∈ bwF l g (l.length + 1), ∃ i : Nat, i < l.length + 1 ∧ d = bwO l g ((l.length : Int) - (i : Int)) := by
    intro d hd
    unfold bwF at hd
    obtain ⟨h1, -⟩ := List.mem_filter.1 hd
    obtain ⟨i, hi, rfl⟩ := List.mem_map.1 h1
    exact ⟨i, List.mem_range.1 hi, rfl⟩
  have hO : ∀ (i : Int) (x : Int), x ∈ bwO l g i ↔ x ∈ g ∧ wn x = i := by
    intro i x
    unfold bwO
    rw [List.mem_filter, decide_eq_true_eq]
    constructor
    · rintro ⟨h1, h2⟩; exact ⟨h1, by rw [← (hw x h1).1]; exact h2⟩
    · rintro ⟨h1, h2⟩; exact ⟨h1, by rw [(hw x h1).1]; exact h2⟩
  refine ⟨fun d hd => bwF_ne hd, ?_, ?_, ?_, ?_⟩
  · intro d hd
    obtain ⟨i, -, rfl⟩ := hin d hd
    exact hg.filter _
  · intro d hd x hx y hy
    obtain ⟨i, -, rfl⟩ := hin d hd
    rw [((hO _ _).1 hx).2, ((hO _ _).1 hy).2]
  · unfold bwF
    refine List.Pairwise.filter _ (List.pairwise_map.2 (List.pairwise_lt_range.imp (fun hij x hx y hy => ?_)))
    rw [((hO _ _).1 hx).2, ((hO _ _).1 hy).2]
    omega
  · intro x
    constructor
    · intro hx
      obtain ⟨h1, h2, h3⟩ := hw x hx
      refine ⟨bwO l g (wn x), ?_, (hO _ _).2 ⟨hx, rfl⟩⟩
      unfold bwF
      refine List.mem_filter.2 ⟨List.mem_map.2 ⟨((l.length : Int) - wn x).toNat, List.mem_range.2 (by omega), ?_⟩, ?_⟩
      · congr 1; omega
      · have : x ∈ bwO l g (wn x) := (hO _ _).2 ⟨hx, rfl⟩
        cases hd : bwO l g (wn x) with
        | nil => rw [hd] at this; cases this
        | cons => rfl
    · rintro ⟨d, hd, hx⟩
      obtain ⟨i, -, rfl⟩ := hin d hd
      exact ((hO _ _).1 hx).1
/-- The winner of a result. -/
def wnr (x : Re) : Int := if x.p1 < x.p0 then x.a else x.b
theorem cutR_wins (r : Rw) (g : Int) : (cutR r g).wins = r.wins := by unfold cutR; split <;> rfl
theorem refF_wins (t : Int) : ∀ (l : List Re) (p : Rw × Int), (∀ x ∈ l, x.a ≠ x.b) → (∀ x ∈ l, x.p0 ≠ x.p1) → (l.foldl (fun p x => refR x t p) p).1.wins = p.1.wins + ((l.filter fun x => decide (wnr x = t)).length : Nat)
  | [], p, _, _ => by simp
  | x :: l, p, h1, h2 => by
    rw [List.foldl_cons, refF_wins t l _ (fun y hy => h1 y (by simp [hy])) (fun y hy => h2 y (by simp [hy]))]
    have a := h1 x (by simp)
    have b := h2 x (by simp)
    have e : (refR x t p).1.wins = p.1.wins + if wnr x = t then 1 else 0 := by
      unfold refR wnr
      by_cases q1 : x.a = t
      · rw [if_pos q1]
        by_cases q2 : x.p1 < x.p0
        · simp [sideU, q1, q2]
        · have : ¬ x.b = t := by omega
          simp [sideU, q2, this]
      · rw [if_neg q1]
        by_cases q3 : x.b = t
        · rw [if_pos q3]
          by_cases q2 : x.p1 < x.p0
          · have q4 : ¬ x.p0 < x.p1 := by omega
            simp [sideU, q1, q2, q4]
          · have q4 : x.p0 < x.p1 := by omega
            simp [sideU, q2, q3, q4]
        · rw [if_neg q3]
          by_cases q2 : x.p1 < x.p0
          · simp [q2, q1]
          · simp [q2, q3]
    rw [e]
    by_cases q : wnr x = t
    · rw [if_pos q, List.filter_cons_of_pos (by simp [q]), List.length_cons]; omega
    · rw [if_neg q, List.filter_cons_of_neg (by simp [q])]; omega
theorem refRow_wins {l : List Re} (h1 : ∀ x ∈ l, x.a ≠ x.b) (h2 : ∀ x ∈ l, x.p0 ≠ x.p1) (t : Int) : (refRow l t).wins = ((l.filter fun x => decide (wnr x = t)).length : Nat) := by
  unfold refRow
  rw [cutR_wins]
  have := refF_wins t l (⟨t, 0, 0, 0, 0, 0, 0, 0⟩, 0) h1 h2
  unfold refF
  rw [this]
  show (0 : Int) + _ = _
  omega
/-! Who has won. -/
theorem addW_wnr (x : Re) (m : Int × Int → Option Int) (h : x.p0 ≠ x.p1) : addW 2 x m = upd m (keyR x) (wnr x) := by
  show (if sdP 0 x < sdP 1 x then upd (if sdP 1 x < sdP 0 x then upd m (keyR x) (sdT 0 x) else m) (keyR x) (sdT 1 x) else if sdP 1 x < sdP 0 x then upd m (keyR x) (sdT 0 x) else m) = _
  have e0 : sdP 0 x = x.p0 := rfl
  have e1 : sdP 1 x = x.p1 := rfl
  rw [e0, e1]
  unfold wnr
  by_cases q : x.p1 < x.p0
  · rw [if_neg (by omega), if_pos q, if_pos q]; rfl
  · rw [if_pos (by omega), if_neg q, if_neg q]; rfl
theorem won_none (k : Int × Int) : ∀ (l : List Re) (m : Int × Int → Option Int), (∀ x ∈ l, x.p0 ≠ x.p1) → k ∉ l.map keyR → (l.foldl (fun m x => addW 2 x m) m) k = m k
  | [], _, _, _ => rfl
  | x :: l, m, h, hk => by
    rw [List.foldl_cons, won_none k l _ (fun y hy => h y (by simp [hy])) (fun hm => hk (by simp only [List.map_cons, List.mem_cons]; exact .inr hm)), addW_wnr x m (h x (by simp))]
    unfold upd
    rw [if_neg (fun e => hk (by simp [e]))]
theorem won_some : ∀ (l : List Re) (m : Int × Int → Option Int), (∀ x ∈ l, x.p0 ≠ x.p1) → (l.map keyR).Nodup → ∀ x ∈ l, (l.foldl (fun m x => addW 2 x m) m) (keyR x) = some (wnr x)
  | y :: l, m, h, hn, x, hx => by
    rw [List.map_cons, List.nodup_cons] at hn
    rw [List.foldl_cons]
    rcases List.mem_cons.1 hx with rfl | hx
    · rw [won_none _ l _ (fun y hy => h y (by simp [hy])) hn.1, addW_wnr x m (h x (by simp))]
      unfold upd
      rw [if_pos rfl]
    · exact won_some l _ (fun y hy => h y (by simp [hy])) hn.2 x hx
theorem wonM_iff {l : List Re} (h : Vl l) (k : Int × Int) (v : Int) : wonM l k = some v ↔ ∃ x ∈ l, keyR x = k ∧ wnr x = v := by
  constructor
  · intro hk
    by_cases hm : k ∈ l.map keyR
    · obtain ⟨x, hx, rfl⟩ := List.mem_map.1 hm
      have := won_some l (fun _ => none) h.pp h.nd x hx
      unfold wonM at hk
      rw [this] at hk
      exact ⟨x, hx, rfl, by injection hk⟩
    · have := won_none k l (fun _ => none) h.pp hm
      unfold wonM at hk
      rw [this] at hk; cases hk
  · rintro ⟨x, hx, rfl, rfl⟩
    exact won_some l (fun _ => none) h.pp h.nd x hx
theorem wonM_is {l : List Re} (h : Vl l) (k : Int × Int) : (wonM l k).isSome = true ↔ k ∈ l.map keyR := by
  rw [Option.isSome_iff_exists]
  constructor
  · rintro ⟨v, hv⟩
    obtain ⟨x, hx, rfl, -⟩ := (wonM_iff h k v).1 hv
    exact List.mem_map.2 ⟨x, hx, rfl⟩
  · intro hk
    obtain ⟨x, hx, rfl⟩ := List.mem_map.1 hk
    exact ⟨wnr x, (wonM_iff h _ _).2 ⟨x, hx, rfl, rfl⟩⟩
/-! Meetings. -/
/-- The pairs of the first k teams. -/
def prs (g : List Int) : Nat → List (Int × Int)
  | 0 => []
  | k + 1 => prs g k ++ (g.take k).map fun b => (b, g.getD k 0)
theorem fold_step (W : Int × Int → Option Int) (a : Int) : ∀ (L : List Int) (s : (Int → Option Int) × Bool), (∀ b ∈ L, b < a) →
    (L.foldl (stepM W a) s).2 = (s.2 && (L.map fun b => (b, a)).all fun p => (W p).isSome) ∧ ∀ v, ((L.foldl (stepM W a) s).1 v).getD 0 = (s.1 v).getD 0 + (((L.map fun b => (b, a)).filter fun p => decide (W p = some v)).length : Nat)
  | [], s, _ => ⟨by simp, by simp⟩
  | b :: L, s, h => by
    have hb := h b (by simp)
    have ih := fold_step W a L (stepM W a s b) (fun c hc => h c (by simp [hc]))
    rw [List.foldl_cons]
    have e : (min a b, max a b) = (b, a) := by rw [Int.min_eq_right (by omega), Int.max_eq_left (by omega)]
    have es : stepM W a s b = match W (b, a) with | some v => (upd s.1 v ((s.1 v).getD 0 + 1), s.2) | none => (s.1, false) := by unfold stepM; rw [e]; cases W (b, a) <;> rfl
    rw [es] at ih ⊢
    rw [ih.1]
    refine ⟨?_, fun v => ?_⟩
    · cases hW : W (b, a) <;> simp [hW]
    · rw [ih.2 v, List.map_cons]
      cases hW : W (b, a) with
      | none => rw [List.filter_cons_of_neg (by simp [hW])]
      | some u =>
        dsimp only
        unfold upd
        by_cases hu : v = u
        · subst hu
          rw [if_pos rfl, List.filter_cons_of_pos (by simp [hW]), List.length_cons]
          simp only [Option.getD_some]; omega
        · rw [if_neg hu, List.filter_cons_of_neg (by simp [hW]; exact fun e => hu e.symm)]
theorem asc_take {g : List Int} (hg : g.Pairwise (· < ·)) {k : Nat} (hk : k < g.length) : ∀ b ∈ g.take k, b < g.getD k 0 := by
  intro b hb
  have := hg
  rw [← List.take_append_drop k g, List.pairwise_append] at this
  refine this.2.2 b hb _ ?_
  rw [List.drop_eq_getElem_cons hk, List.getD_eq_getElem?_getD, List.getElem?_eq_getElem hk]
  exact List.mem_cons_self
theorem take_snocD {g : List Int} {k : Nat} (hk : k < g.length) : g.take (k + 1) = g.take k ++ [g.getD k 0] := by
  rw [List.take_succ_eq_append_getElem hk, List.getD_eq_getElem?_getD, List.getElem?_eq_getElem hk]; rfl
theorem mtA_prs (W : Int × Int → Option Int) {g : List Int} (hg : g.Pairwise (· < ·)) : ∀ k, k ≤ g.length →
    (mtA W g k).2 = ((prs g k).all fun p => (W p).isSome) ∧ ∀ v, ((mtA W g k).1 v).getD 0 = (((prs g k).filter fun p => decide (W p = some v)).length : Nat)
  | 0, _ => ⟨rfl, fun _ => rfl⟩
  | k + 1, h => by
    obtain ⟨i1, i2⟩ := mtA_prs W hg k (by omega)
    have h1 := fold_step W (g.getD k 0) (g.take k) (mtA W g k) (asc_take hg (by omega))
    show ((g.take k).foldl (stepM W (g.getD k 0)) (mtA W g k)).2 = _ ∧ ∀ v, (((g.take k).foldl (stepM W (g.getD k 0)) (mtA W g k)).1 v).getD 0 = _
    refine ⟨?_, fun v => ?_⟩
    · rw [h1.1, i1]
      show _ = (prs g k ++ (g.take k).map fun b => (b, g.getD k 0)).all _
      rw [List.all_append]
    · rw [h1.2 v, i2 v]
      show _ = (((prs g k ++ (g.take k).map fun b => (b, g.getD k 0)).filter _).length : Int)
      rw [List.filter_append, List.length_append]; omega
theorem prs_ok {g : List Int} (hg : g.Pairwise (· < ·)) : ∀ k, k ≤ g.length → (∀ p, p ∈ prs g k ↔ p.1 ∈ g.take k ∧ p.2 ∈ g.take k ∧ p.1 < p.2) ∧ (prs g k).Nodup ∧ 2 * (prs g k).length + k = k * k
  | 0, _ => ⟨fun p => by simp [prs], by simp [prs], rfl⟩
  | k + 1, h => by
    obtain ⟨i1, i2, i3⟩ := prs_ok hg k (by omega)
    have ha := asc_take hg (k := k) (by omega)
    have hl : (g.take k).length = k := by rw [List.length_take]; omega
    have hnd : (g.take k).Nodup := (hg.sublist (List.take_sublist k g)).imp (fun h e => by omega)
    have et := take_snocD (g := g) (k := k) (by omega)
    refine ⟨fun p => ?_, ?_, ?_⟩
    · show p ∈ prs g k ++ _ ↔ _
      rw [List.mem_append, i1 p, et, List.mem_map]
      simp only [List.mem_append, List.mem_singleton]
      constructor
      · rintro (⟨q1, q2, q3⟩ | ⟨b, hb, rfl⟩)
        · exact ⟨.inl q1, .inl q2, q3⟩
        · exact ⟨.inl hb, .inr rfl, ha b hb⟩
      · rintro ⟨q1, q2, q3⟩
        obtain ⟨p1, p2⟩ := p
        dsimp only at q1 q2 q3
        rcases q2 with q2 | rfl
        · rcases q1 with q1 | rfl
          · exact .inl ⟨q1, q2, q3⟩
          · have := ha _ q2; omega
        · rcases q1 with q1 | rfl
          · exact .inr ⟨p1, q1, rfl⟩
          · omega
    · show (prs g k ++ _).Nodup
      rw [List.nodup_append]
      refine ⟨i2, ?_, ?_⟩
      · rw [List.Nodup, List.pairwise_map]
        exact hnd.imp (fun h e => h (by injection e))
      · rintro p hp q hq rfl
        obtain ⟨b, hb, rfl⟩ := List.mem_map.1 hq
        have := ha _ ((i1 _).1 hp).2.1
        dsimp only at this
        omega
    · show 2 * (prs g k ++ _).length + (k + 1) = _
      rw [List.length_append, List.length_map, hl]
      have : (k + 1) * (k + 1) = k * k + 2 * k + 1 := by rw [Nat.mul_add, Nat.add_mul]; omega
      omega
theorem sub_len {α : Type} [DecidableEq α] {A B : List α} (hA : A.Nodup) (hB : B.Nodup) (h : ∀ x ∈ A, x ∈ B) : A.length = B.length ↔ ∀ x ∈ B, x ∈ A := by
  have hp : A.Perm (B.filter fun x => decide (x ∈ A)) := by
    rw [List.perm_ext_iff_of_nodup hA (List.Pairwise.filter _ hB)]
    intro x
    rw [List.mem_filter, decide_eq_true_eq]
    exact ⟨fun hx => ⟨h x hx, hx⟩, fun hx => hx.2⟩
  rw [hp.length_eq, List.length_filter_eq_length_iff]
  simp only [decide_eq_true_eq]
theorem same_len {α : Type} [DecidableEq α] {A B : List α} (hA : A.Nodup) (hB : B.Nodup) (h : ∀ x, x ∈ A ↔ x ∈ B) : A.length = B.length := (sub_len hA hB (fun x => (h x).1)).2 (fun x => (h x).2)
theorem vl_am {l : List Re} (h : Vl l) (g : List Int) : Vl (amR l g) := by
  have hs : (amR l g).Sublist l := List.filter_sublist
  exact ⟨fun x hx => h.b x (hs.subset hx), fun x hx => h.ab x (hs.subset hx), fun x hx => h.pp x (hs.subset hx), (hs.map keyR).nodup h.nd, Nat.le_trans hs.length_le h.n⟩
theorem key_in {l : List Re} (h : Vl l) {g : List Int} (hg : g.Pairwise (· < ·)) {x : Re} (hx : x ∈ l) : keyR x ∈ prs g g.length ↔ x ∈ amR l g := by
  have hab := h.ab x hx
  rw [(prs_ok hg g.length (Nat.le_refl _)).1, List.take_length]
  unfold amR amB keyR
  rw [List.mem_filter, Bool.and_eq_true, decide_eq_true_eq, decide_eq_true_eq]
  dsimp only
  rcases Int.lt_or_le x.a x.b with q | q
  · rw [Int.min_eq_left (by omega), Int.max_eq_right (by omega)]
    exact ⟨fun q1 => ⟨hx, q1.1, q1.2.1⟩, fun q1 => ⟨q1.2.1, q1.2.2, q⟩⟩
  · rw [Int.min_eq_right (by omega), Int.max_eq_left (by omega)]
    exact ⟨fun q1 => ⟨hx, q1.2.1, q1.1⟩, fun q1 => ⟨q1.2.2, q1.2.1, by omega⟩⟩
theorem met_iff {l : List Re} (h : Vl l) {g : List Int} (hg : g.Pairwise (· < ·)) : (mtA (wonM l) g g.length).2 = true ↔ ((amR l g).length : Int) = ((g.length : Int) * ((g.length : Int) - 1)) / 2 := by
  rw [(mtA_prs (wonM l) hg g.length (Nat.le_refl _)).1, List.all_eq_true]
  obtain ⟨-, p2, p3⟩ := prs_ok hg g.length (Nat.le_refl _)
  have e : ((g.length : Int) * ((g.length : Int) - 1)) / 2 = ((prs g g.length).length : Nat) := by
    have : ((g.length : Int) * ((g.length : Int) - 1)) = 2 * ((prs g g.length).length : Nat) := by
      rw [Int.mul_sub, Int.mul_one]
      have : ((2 * (prs g g.length).length + g.length : Nat) : Int) = ((g.length * g.length : Nat) : Int) := by rw [p3]
      rw [Int.natCast_mul] at this
      omega
    omega
  rw [e]
  have hsub : ∀ k ∈ (amR l g).map keyR, k ∈ prs g g.length := by
    intro k hk
    obtain ⟨x, hx, rfl⟩ := List.mem_map.1 hk
    exact (key_in h hg (List.mem_filter.1 hx).1).2 hx
  have hl : ((amR l g).length : Int) = ((prs g g.length).length : Nat) ↔ ((amR l g).map keyR).length = (prs g g.length).length := by rw [List.length_map]; omega
  rw [hl, sub_len (vl_am h g).nd p2 hsub]
  constructor
  · intro hall k hk
    obtain ⟨x, hx, rfl⟩ := List.mem_map.1 ((wonM_is h k).1 (hall k hk))
    exact List.mem_map.2 ⟨x, (key_in h hg hx).1 hk, rfl⟩
  · intro hall k hk
    obtain ⟨x, hx, rfl⟩ := List.mem_map.1 (hall k hk)
    exact (wonM_is h _).2 (List.mem_map.2 ⟨x, (List.mem_filter.1 hx).1, rfl⟩)
theorem am_wins {l : List Re} (h : Vl l) {g : List Int} (hg : g.Pairwise (· < ·)) (v : Int) : (refRow (amR l g) v).wins = mtW l g v := by
  have ha := vl_am h g
  rw [refRow_wins ha.ab ha.pp]
  unfold mtW
  rw [(mtA_prs (wonM l) hg g.length (Nat.le_refl _)).2 v]
  obtain ⟨-, p2, -⟩ := prs_ok hg g.length (Nat.le_refl _)
  congr 1
  have el : ((amR l g).filter fun x => decide (wnr x = v)).length = (((amR l g).filter fun x => decide (wnr x = v)).map keyR).length := (List.length_map keyR).symm
  rw [el]
  refine same_len ((List.filter_sublist.map keyR).nodup ha.nd) (List.Pairwise.filter _ p2) (fun k => ?_)
  rw [List.mem_map, List.mem_filter, decide_eq_true_eq, wonM_iff h]
  constructor
  · rintro ⟨x, hx, rfl⟩
    rw [List.mem_filter, decide_eq_true_eq] at hx
    have hxl := (List.mem_filter.1 hx.1).1
    exact ⟨(key_in h hg hxl).2 hx.1, x, hxl, rfl, hx.2⟩
  · rintro ⟨hk, x, hx, rfl, rfl⟩
    exact ⟨x, List.mem_filter.2 ⟨(key_in h hg hx).1 hk, by simp⟩, rfl⟩
theorem grps_all {key : Int → Int} {g : List Int} (hg : g.Pairwise (· < ·)) (hne : g ≠ []) (hk : ∀ a ∈ g, ∀ b ∈ g, key a = key b) : (grps key g).length = 1 := by
  have : [g] = grps key g := Grp.eq ⟨by simpa using hne, by simpa using hg, by simpa using hk, by simp, by simp⟩ hg
  rw [← this]; rfl
theorem apF_apP {l : List Re} (h : Vl l) : ∀ (f : Nat) (g : List Int), g.Pairwise (· < ·) → apF l f g = apP l f g
  | 0, _, _ => rfl
  | f + 1, g, hg => by
    unfold apF apP
    by_cases hl : g.length < 2
    · rw [if_pos hl, if_pos hl]
    · rw [if_neg hl, if_neg hl]
      have hb := refRow_b (amR l g)
      have hB : bwF (amR l g) g ((amR l g).length + 1) = grps (fun a => -(mtW l g a)) g := Grp.eq (bwF_grp hg (fun t _ => by
        have := hb t (vl_am h g).b
        rw [am_wins h hg t] at this ⊢
        exact ⟨rfl, this.2.2.1, this.2.2.2⟩)) hg
      have hM := met_iff h hg
      rw [hB]
      by_cases ha : mtAsk l g = true
      · have hm : (mtA (wonM l) g g.length).2 = true := by unfold mtAsk at ha; rw [Bool.and_eq_true] at ha; exact ha.1
        obtain ⟨a, q1, b, q2, q3⟩ := ask_two ha
        rw [if_pos ha, if_neg (by
          rintro (q | q)
          · exact q (hM.1 hm)
          · exact Grp.two (grps_ok _ hg) q1 q2 q3 q)]
        rw [List.flatMap_def, List.flatMap_def, List.map_congr_left (fun d hd => apF_apP h f d (grps_part hg hd).2.1)]
      · rw [if_neg ha, if_pos ?_]
        · exact bmF_grpF (bfR_key h) _ _
        · by_cases hm : (mtA (wonM l) g g.length).2 = true
          · right
            have hany : ∀ a ∈ g, mtW l g a = mtW l g (g.getD 0 0) := by
              intro a hx
              rcases Int.decEq (mtW l g a) (mtW l g (g.getD 0 0)) with q | q
              · exfalso
                refine ha ?_
                unfold mtAsk
                rw [hm, Bool.true_and, List.any_eq_true]
                exact ⟨a, hx, decide_eq_true q⟩
              · exact q
            exact grps_all hg (by intro e; subst e; simp at hl) (fun a ha b hb => by rw [hany a ha, hany b hb])
          · left
            exact fun e => hm (hM.2 e)
theorem ordF_ordP {T : Int} {l : List Re} (hc : chkE T l = 0) : ordF l T.toNat = ordP l T.toNat := by
  have h := vl_of hc
  unfold ordF ordP
  have hB : bwF l (allT T.toNat) (l.length + 1) = grps (wnK l) (allT T.toNat) := Grp.eq (bwF_grp (allT_inc _) (wn := fun t => (rowN l t).wins) (fun t _ => by
    have := refRow_b l t h.b
    rw [rowN_ref h.ab]
    exact ⟨rfl, this.2.2⟩)) (allT_inc _)
  rw [hB, List.flatMap_def, List.flatMap_def, List.map_congr_left (fun d hd => apF_apP h _ d (grps_part (allT_inc _) hd).2.1)]
theorem ord_ok (T : Int) (l : List Re) : OrdOk T l := fun hc => by rw [ordF_ordP hc]; exact ordP_perm l _
theorem tblR_P (T : Int) (l : List Re) : tblR T l = tblP T l := by
  unfold tblR tblP
  by_cases hc : chkE T l = 0
  · rw [if_pos hc, if_pos hc, ordF_ordP hc, rowN_ref (vl_of hc).ab]
  · rw [if_neg hc, if_neg hc]
theorem przR_P (T : Int) (l : List Re) (pz : List Int) : przR T l pz = przP T l pz := by
  unfold przR przP
  by_cases hp : przE T l pz = 0
  · have hc : chkE T l = 0 := by
      unfold przE at hp
      split at hp
      · omega
      · omega
    rw [if_pos hp, if_pos hp, ordF_ordP hc]
  · rw [if_neg hp, if_neg hp]
end Go.Proofs.Ytlfbbofcnonhdaa
