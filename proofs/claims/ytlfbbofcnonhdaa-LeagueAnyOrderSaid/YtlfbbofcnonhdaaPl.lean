/- Plain law: valid brackets; a knock-out is one. -/
import Derived.Test.YtlfbbofcnonhdaaCb
namespace Go.Proofs.Ytlfbbofcnonhdaa
open Go.RowKit Go.Proofs

/-- A place that is there, ahead of the n-th game. -/
def rng (T : Int) (x : Int × Int) (n : Int) : Prop := (0 ≤ x.1 ∧ x.1 ≤ 2) ∧ 0 ≤ x.2 ∧ x.2 ≤ (if x.1 = 0 then T else n) - 1
structure BrOk (T : Int) (G : List Gm) (R : List (Int × Int)) : Prop where
  t : 2 ≤ T ∧ T ≤ 16
  g : 1 ≤ G.length ∧ G.length ≤ 64
  r : (R.length : Int) = T
  gm : ∀ i (h : i < G.length), rng T (G[i]'h).1 (i : Nat) ∧ rng T (G[i]'h).2 (i : Nat)
  pl : ∀ x ∈ R, rng T x (G.length : Nat)
  nd : (flG G ++ R).Nodup
theorem flG_cons (g : Gm) (G : List Gm) : flG (g :: G) = g.1 :: g.2 :: flG G := rfl
theorem tkB_iff (T : Int) (S : List (Int × Int)) (x : Int × Int) (i : Int) : tkB T S x i = true ↔ rng T x i ∧ x ∉ S := by
  unfold tkB rng
  rw [Bool.and_eq_true, Bool.and_eq_true, decide_eq_true_eq, decide_eq_true_eq, Bool.not_eq_true', ← Bool.not_eq_true, List.contains_iff_mem]
theorem gmB_iff (T : Int) : ∀ (G : List Gm) (S : List (Int × Int)) (i : Int), gmB T S i G = true ↔ (∀ k (h : k < G.length), rng T (G[k]'h).1 (i + (k : Nat)) ∧ rng T (G[k]'h).2 (i + (k : Nat))) ∧ (flG G).Nodup ∧ ∀ x ∈ flG G, x ∉ S
  | [], S, i => by simp [gmB, flG]
  | g :: G, S, i => by
    show ((tkB T S g.1 i && tkB T (g.1 :: S) g.2 i) && gmB T (g.2 :: g.1 :: S) (i + 1) G) = true ↔ _
    rw [Bool.and_eq_true, Bool.and_eq_true, tkB_iff, tkB_iff, gmB_iff T G, flG_cons]
    simp only [List.nodup_cons, List.mem_cons, not_or]
    constructor
    · rintro ⟨⟨⟨a1, a2⟩, b1, b2, b3⟩, c1, c2, c3⟩
      refine ⟨fun k h => ?_, ⟨⟨fun e => b2 e.symm, fun hm => (c3 _ hm).2.1 rfl⟩, fun hm => (c3 _ hm).1 rfl, c2⟩, ?_⟩
      · cases k with
        | zero => simp only [List.getElem_cons_zero]; exact ⟨by simpa using a1, by simpa using b1⟩
        | succ k =>
          have := c1 k (by simpa using h)
          simp only [List.getElem_cons_succ]
          rw [show i + ((k + 1 : Nat) : Int) = i + 1 + (k : Nat) by omega]
          exact this
      · rintro x (rfl | rfl | hm)
        · exact a2
        · exact b3
        · exact (c3 x hm).2.2
    · rintro ⟨h1, ⟨⟨n1, n2⟩, n3, n4⟩, h3⟩
      have h0 := h1 0 (by simp)
      simp only [List.getElem_cons_zero] at h0
      refine ⟨⟨⟨by simpa using h0.1, h3 _ (.inl rfl)⟩, by simpa using h0.2, fun e => n1 e.symm, h3 _ (.inr (.inl rfl))⟩, fun k h => ?_, n4, fun x hm => ⟨fun e => n3 (e ▸ hm), fun e => n2 (e ▸ hm), h3 x (.inr (.inr hm))⟩⟩
      have := h1 (k + 1) (by simpa using h)
      simp only [List.getElem_cons_succ] at this
      rw [show i + ((k + 1 : Nat) : Int) = i + 1 + (k : Nat) by omega] at this
      exact this
theorem allB_iff (T n : Int) : ∀ (l S : List (Int × Int)), allB T n S l = true ↔ (∀ x ∈ l, rng T x n) ∧ l.Nodup ∧ ∀ x ∈ l, x ∉ S
  | [], S => by simp [allB]
  | y :: l, S => by
    show (tkB T S y n && allB T n (y :: S) l) = true ↔ _
    rw [Bool.and_eq_true, tkB_iff, allB_iff T n l]
    simp only [List.nodup_cons, List.mem_cons, not_or]
    constructor
    · rintro ⟨⟨a1, a2⟩, b1, b2, b3⟩
      refine ⟨?_, ⟨fun hm => (b3 y hm).1 rfl, b2⟩, ?_⟩
      · rintro x (rfl | hm)
        · exact a1
        · exact b1 x hm
      · rintro x (rfl | hm)
        · exact a2
        · exact (b3 x hm).2
    · rintro ⟨h1, ⟨n1, n2⟩, h3⟩
      exact ⟨⟨h1 y (.inl rfl), h3 y (.inl rfl)⟩, fun x hm => h1 x (.inr hm), n2, fun x hm => ⟨fun e => n1 (e ▸ hm), h3 x (.inr hm)⟩⟩
theorem cbB_iff (T : Int) (G : List Gm) (R : List (Int × Int)) : cbB T G R = true ↔ BrOk T G R := by
  unfold cbB
  simp only [Bool.and_eq_true, decide_eq_true_eq]
  rw [gmB_iff, allB_iff]
  constructor
  · rintro ⟨⟨⟨⟨h1, h2⟩, h3⟩, h4, h5, -⟩, h6, h7, h8⟩
    refine ⟨h1, by omega, h3, fun i h => ?_, h6, ?_⟩
    · have := h4 i h
      rw [Int.zero_add] at this
      exact this
    · rw [List.nodup_append]
      refine ⟨h5, h7, ?_⟩
      rintro x hx y hy rfl
      exact h8 x hy (List.mem_reverse.2 hx)
  · rintro ⟨h1, h2, h3, h4, h5, h6⟩
    rw [List.nodup_append] at h6
    refine ⟨⟨⟨⟨h1, by omega⟩, h3⟩, fun k h => ?_, h6.1, fun _ _ h => by cases h⟩, h5, h6.2.1, fun x hx hm => h6.2.2 x (List.mem_reverse.1 hm) x hx rfl⟩
    rw [Int.zero_add]; exact h4 k h
/-! Counting. -/
theorem cntL_app (l m : List (Int × Int)) (x : Int × Int) : cntL (l ++ m) x = cntL l x + cntL m x := by
  unfold cntL; rw [List.filter_append, List.length_append]
theorem cntL_cons (y : Int × Int) (l : List (Int × Int)) (x : Int × Int) : cntL (y :: l) x = (if y = x then 1 else 0) + cntL l x := by
  have := cntL_app [y] l x
  rw [List.singleton_append] at this
  rw [this]
  have h := cntL_snoc [] y x
  rw [List.nil_append] at h
  rw [h]
  show 0 + _ + _ = _
  omega
theorem cntL_pos {l : List (Int × Int)} {x : Int × Int} : 1 ≤ cntL l x ↔ x ∈ l := by
  unfold cntL
  rw [show (1 ≤ (l.filter fun y => decide (y = x)).length) ↔ 0 < (l.filter fun y => decide (y = x)).length from Iff.rfl, List.length_pos_iff_exists_mem]
  constructor
  · rintro ⟨y, hy⟩
    rw [List.mem_filter, decide_eq_true_eq] at hy
    exact hy.2 ▸ hy.1
  · intro h
    exact ⟨x, List.mem_filter.2 ⟨h, by simp⟩⟩
theorem cntL_nd : ∀ (l : List (Int × Int)), l.Nodup ↔ ∀ x, cntL l x ≤ 1
  | [] => by simp [cntL]
  | y :: l => by
    rw [List.nodup_cons, cntL_nd l]
    constructor
    · rintro ⟨h1, h2⟩ x
      rw [cntL_cons]
      have h3 := h2 x
      by_cases e : y = x
      · subst e
        have : ¬ 1 ≤ cntL l y := fun h => h1 (cntL_pos.1 h)
        rw [if_pos rfl]; omega
      · rw [if_neg e]; omega
    · intro h
      refine ⟨fun hm => ?_, fun x => ?_⟩
      · have h1 := h y
        rw [cntL_cons, if_pos rfl] at h1
        have := cntL_pos.2 hm
        omega
      · have h1 := h x
        rw [cntL_cons] at h1
        omega
theorem cntL_rev (l : List (Int × Int)) (x : Int × Int) : cntL l.reverse x = cntL l x := by
  unfold cntL; rw [List.filter_reverse, List.length_reverse]
theorem cnt_one {l : List (Int × Int)} : (∀ x ∈ l, cntL l x = 1) ↔ l.Nodup := by
  rw [cntL_nd]
  constructor
  · intro h x
    by_cases hm : x ∈ l
    · rw [h x hm]; exact Nat.le_refl _
    · have : ¬ 1 ≤ cntL l x := fun h => hm (cntL_pos.1 h)
      omega
  · intro h x hm
    have := h x
    have := cntL_pos.2 hm
    omega
theorem fmB_iff (T : Int) (G : List Gm) (R : List (Int × Int)) (x : Int × Int) (n : Int) : fmB T G R x n = true ↔ rng T x n ∧ cntL (flG G ++ R) x = 1 := by
  rw [cntL_app]
  unfold fmB rng cntB
  simp only [Bool.and_eq_true, Bool.or_eq_true, decide_eq_true_eq]
  by_cases h : x.1 = 0
  · rw [if_pos h]; omega
  · rw [if_neg h]; omega
theorem flG_mem {G : List Gm} {x : Int × Int} : x ∈ flG G ↔ ∃ i, ∃ h : i < G.length, x = (G[i]'h).1 ∨ x = (G[i]'h).2 := by
  unfold flG
  rw [List.mem_flatMap]
  constructor
  · rintro ⟨g, hg, hx⟩
    obtain ⟨i, h, rfl⟩ := List.mem_iff_getElem.1 hg
    refine ⟨i, h, ?_⟩
    simpa using hx
  · rintro ⟨i, h, hx⟩
    exact ⟨G[i]'h, List.getElem_mem h, by simpa using hx⟩
theorem ckB_iff (T : Int) (G : List Gm) (R : List (Int × Int)) : ckB T G R = true ↔ BrOk T G R := by
  unfold ckB
  simp only [Bool.and_eq_true, decide_eq_true_eq, List.all_eq_true, List.mem_range]
  have hG : ∀ i (h : i < G.length), gmC T G R i = true ↔ (rng T (G[i]'h).1 (i : Nat) ∧ cntL (flG G ++ R) (G[i]'h).1 = 1) ∧ (rng T (G[i]'h).2 (i : Nat) ∧ cntL (flG G ++ R) (G[i]'h).2 = 1) := by
    intro i h
    unfold gmC
    rw [List.getD_eq_getElem?_getD, List.getElem?_eq_getElem h]
    show (fmB T G R (G[i]'h).1 _ && fmB T G R (G[i]'h).2 _) = true ↔ _
    rw [Bool.and_eq_true, fmB_iff, fmB_iff]
  have hR : ∀ i (h : i < R.length), plC T G R i = true ↔ rng T (R[i]'h) (G.length : Nat) ∧ cntL (flG G ++ R) (R[i]'h) = 1 := by
    intro i h
    unfold plC
    rw [List.getD_eq_getElem?_getD, List.getElem?_eq_getElem h]
    exact fmB_iff ..
  constructor
  · rintro ⟨⟨⟨⟨h1, h2⟩, h3⟩, h4⟩, h5⟩
    refine ⟨h1, by omega, h3, fun i h => ⟨((hG i h).1 (h4 i h)).1.1, ((hG i h).1 (h4 i h)).2.1⟩, fun x hx => ?_, cnt_one.1 (fun x hx => ?_)⟩
    · obtain ⟨i, h, rfl⟩ := List.mem_iff_getElem.1 hx
      exact ((hR i h).1 (h5 i h)).1
    · rcases List.mem_append.1 hx with hx | hx
      · obtain ⟨i, h, rfl | rfl⟩ := flG_mem.1 hx
        · exact ((hG i h).1 (h4 i h)).1.2
        · exact ((hG i h).1 (h4 i h)).2.2
      · obtain ⟨i, h, rfl⟩ := List.mem_iff_getElem.1 hx
        exact ((hR i h).1 (h5 i h)).2
  · rintro ⟨h1, h2, h3, h4, h5, h6⟩
    have h7 := cnt_one.2 h6
    refine ⟨⟨⟨⟨h1, by omega⟩, h3⟩, fun i h => (hG i h).2 ⟨⟨(h4 i h).1, h7 _ (List.mem_append.2 (.inl (flG_mem.2 ⟨i, h, .inl rfl⟩)))⟩, (h4 i h).2, h7 _ (List.mem_append.2 (.inl (flG_mem.2 ⟨i, h, .inr rfl⟩)))⟩⟩, fun i h => (hR i h).2 ⟨h5 _ (List.getElem_mem h), h7 _ (List.mem_append.2 (.inr (List.getElem_mem h)))⟩⟩
theorem ck_cb (T : Int) (G : List Gm) (R : List (Int × Int)) : ckB T G R = cbB T G R := by
  rw [Bool.eq_iff_iff, ckB_iff, cbB_iff]
theorem rng_w {T n : Int} {x : Int × Int} (h : rng T x n) (hT : T ≤ 1000) (hn : n ≤ 1000) : W2 x := by
  unfold rng at h
  split at h <;> exact ⟨by unfold W64; omega, by unfold W64; omega⟩
theorem BrOk.w {T : Int} {G : List Gm} {R : List (Int × Int)} (h : BrOk T G R) : (∀ g ∈ G, W2 g.1 ∧ W2 g.2) ∧ ∀ x ∈ R, W2 x := by
  have h1 := h.t
  have h2 := h.g
  refine ⟨fun g hg => ?_, fun x hx => rng_w (h.pl x hx) (by omega) (by omega)⟩
  obtain ⟨i, hi, rfl⟩ := List.mem_iff_getElem.1 hg
  exact ⟨rng_w (h.gm i hi).1 (by omega) (by omega), rng_w (h.gm i hi).2 (by omega) (by omega)⟩
/-! A knock-out. -/
def wlL (n : Nat) : List (Int × Int) := (List.range n).flatMap fun k => [((1 : Int), ((k : Nat) : Int)), ((2 : Int), ((k : Nat) : Int))]
theorem wlL_succ (n : Nat) (x : Int × Int) : cntL (wlL (n + 1)) x = cntL (wlL n) x + (if ((1 : Int), ((n : Nat) : Int)) = x then 1 else 0) + (if ((2 : Int), ((n : Nat) : Int)) = x then 1 else 0) := by
  unfold wlL
  rw [List.range_succ, List.flatMap_append, cntL_app]
  simp only [List.flatMap_cons, List.flatMap_nil, List.append_nil]
  rw [cntL_cons, cntL_cons]
  show _ + (_ + (_ + 0)) = _
  omega
theorem base_rng {T n : Nat} {x : Int × Int} (h : x ∈ seedL T ++ wlL n) : rng (T : Nat) x (n : Nat) := by
  unfold rng
  rcases List.mem_append.1 h with h | h
  · unfold seedL at h
    obtain ⟨t, ht, rfl⟩ := List.mem_map.1 h
    have := List.mem_range.1 ht
    dsimp only
    rw [if_pos rfl]; omega
  · unfold wlL at h
    obtain ⟨k, hk, hx⟩ := List.mem_flatMap.1 h
    have := List.mem_range.1 hk
    simp only [List.mem_cons, List.not_mem_nil, or_false] at hx
    rcases hx with rfl | rfl
    · dsimp only; rw [if_neg (by omega)]; omega
    · dsimp only; rw [if_neg (by omega)]; omega
theorem base_nd (T n : Nat) (x : Int × Int) : cntL (seedL T) x + cntL (wlL n) x ≤ 1 := by
  have h1 : ∀ T : Nat, cntL (seedL T) x ≤ (if x.1 = 0 ∧ 0 ≤ x.2 ∧ x.2 < T then 1 else 0) := by
    intro T
    induction T with
    | zero => exact Nat.zero_le _
    | succ T ih =>
      rw [seedL_succ, cntL_snoc]
      by_cases e : ((0 : Int), ((T : Nat) : Int)) = x
      · subst e
        dsimp only at ih ⊢
        rw [if_neg (by omega)] at ih
        rw [if_pos rfl, if_pos (by omega)]
        omega
      · rw [if_neg e]
        split at ih
        · rw [if_pos (by omega)]; omega
        · omega
  have h2 : ∀ n : Nat, cntL (wlL n) x ≤ (if (x.1 = 1 ∨ x.1 = 2) ∧ 0 ≤ x.2 ∧ x.2 < n then 1 else 0) := by
    intro n
    induction n with
    | zero => exact Nat.zero_le _
    | succ n ih =>
      rw [wlL_succ]
      by_cases e : ((1 : Int), ((n : Nat) : Int)) = x
      · subst e
        dsimp only at ih ⊢
        rw [if_neg (by omega)] at ih
        rw [if_pos rfl, if_neg (by simp), if_pos (by omega)]
        omega
      · rw [if_neg e]
        by_cases e2 : ((2 : Int), ((n : Nat) : Int)) = x
        · subst e2
          dsimp only at ih ⊢
          rw [if_neg (by omega)] at ih
          rw [if_pos rfl, if_pos (by omega)]
          omega
        · rw [if_neg e2]
          split at ih
          · rw [if_pos (by omega)]; omega
          · omega
  have := h1 T
  have := h2 n
  split at * <;> split at * <;> omega
/-- What holds while a knock-out is made. -/
structure KInv (T : Nat) (G : List Gm) (P : List (Int × Int)) : Prop where
  cnt : ∀ x, cntL (flG G) x + cntL P x = cntL (seedL T) x + cntL (wlL G.length) x
  gm : ∀ i (h : i < G.length), rng (T : Nat) (G[i]'h).1 (i : Nat) ∧ rng (T : Nat) (G[i]'h).2 (i : Nat)
theorem KInv.mem {T : Nat} {G : List Gm} {P : List (Int × Int)} (h : KInv T G P) {x : Int × Int} (hx : x ∈ P) : rng (T : Nat) x (G.length : Nat) := by
  refine base_rng (T := T) (n := G.length) (cntL_pos.1 ?_)
  rw [cntL_app, ← h.cnt]
  have := cntL_pos.2 hx
  omega
theorem KInv.perm {T : Nat} {G : List Gm} {P Q : List (Int × Int)} (h : KInv T G P) (hq : ∀ x, cntL Q x = cntL P x) : KInv T G Q := ⟨fun x => by rw [hq]; exact h.cnt x, h.gm⟩
/-- What is left of the pairs. -/
def remL (u : List (Int × Int)) (i : Nat) : List (Int × Int) := (u.drop i).take (u.length - 2 * i)
theorem remL_step {u : List (Int × Int)} {i : Nat} (h : 2 * i + 2 ≤ u.length) : remL u i = u.getD i (0, 0) :: (remL u (i + 1) ++ [u.getD (u.length - 1 - i) (0, 0)]) := by
  unfold remL
  have e1 : u.drop i = u[i]'(by omega) :: u.drop (i + 1) := List.drop_eq_getElem_cons (by omega)
  have e2 : u.length - 2 * i = (u.length - 2 * (i + 1) + 1) + 1 := by omega
  rw [e1, e2, List.take_succ_cons, List.take_succ_eq_append_getElem (by rw [List.length_drop]; omega), List.getElem_drop]
  congr 1
  · rw [List.getD_eq_getElem?_getD, List.getElem?_eq_getElem (by omega)]; rfl
  · congr 2
    rw [List.getD_eq_getElem?_getD, List.getElem?_eq_getElem (by omega)]
    simp only [Option.getD_some]
    congr 1
    omega
theorem evI_inv {T : Nat} {u : List (Int × Int)} {s : EvS} {R : List (Int × Int)} (h : KInv T s.1 (s.2.1 ++ (s.2.2 ++ (R ++ u)))) : ∀ i, 2 * i ≤ u.length → KInv T (evI u s i).1 ((evI u s i).2.1 ++ ((evI u s i).2.2 ++ (R ++ remL u i)))
  | 0, _ => by
    have : remL u 0 = u := by unfold remL; simp
    rw [this]; exact h
  | i + 1, hi => by
    have ih := evI_inv h i (by omega)
    have hst := remL_step (u := u) (i := i) (by omega)
    show KInv T ((evI u s i).1 ++ [(u.getD i (0, 0), u.getD (u.length - 1 - i) (0, 0))]) (((evI u s i).2.1 ++ [(1, ((evI u s i).1.length : Int))]) ++ (((evI u s i).2.2 ++ [(2, ((evI u s i).1.length : Int))]) ++ (R ++ remL u (i + 1))))
    generalize evI u s i = q at *
    generalize u.getD i (0, 0) = x at *
    generalize u.getD (u.length - 1 - i) (0, 0) = y at *
    have hx := ih.mem (x := x) (by rw [hst]; simp)
    have hy := ih.mem (x := y) (by rw [hst]; simp)
    refine ⟨fun z => ?_, fun k hk => ?_⟩
    · have hc := ih.cnt z
      rw [hst] at hc
      have e : flG (q.1 ++ [(x, y)]) = flG q.1 ++ [x] ++ [y] := by unfold flG; rw [List.flatMap_append]; simp
      rw [e, List.length_append, List.length_singleton, wlL_succ]
      simp only [cntL_app, cntL_cons] at hc ⊢
      have z0 : cntL [] z = 0 := rfl
      omega
    · rcases Nat.lt_or_ge k q.1.length with hlt | hge
      · rw [List.getElem_append_left hlt]; exact ih.gm k hlt
      · have : k = q.1.length := by rw [List.length_append, List.length_singleton] at hk; omega
        subst this
        rw [List.getElem_append_right (Nat.le_refl _)]
        simp only [Nat.sub_self, List.getElem_cons_zero]
        exact ⟨hx, hy⟩
theorem evR_inv {T n : Nat} {s : EvS} {R : List (Int × Int)} (h : KInv T s.1 (s.2.1 ++ (s.2.2 ++ R))) : KInv T (evR n s).1 ((evR n s).2.1 ++ ((evR n s).2.2 ++ R)) := by
  have hp : evP n s.2.1 = min (s.2.1.length / 2) (s.2.1.length - n) := rfl
  unfold evR
  generalize evP n s.2.1 = p at *
  have hul : (s.2.1.drop (s.2.1.length - 2 * p)).length = 2 * p := by rw [List.length_drop]; omega
  have h1 : KInv T (s.1, s.2.1.take (s.2.1.length - 2 * p), s.2.2).1 ((s.1, s.2.1.take (s.2.1.length - 2 * p), s.2.2).2.1 ++ ((s.1, s.2.1.take (s.2.1.length - 2 * p), s.2.2).2.2 ++ (R ++ s.2.1.drop (s.2.1.length - 2 * p)))) := by
    refine h.perm (fun x => ?_)
    have e : cntL s.2.1 x = cntL (s.2.1.take (s.2.1.length - 2 * p)) x + cntL (s.2.1.drop (s.2.1.length - 2 * p)) x := by rw [← cntL_app, List.take_append_drop]
    simp only [cntL_app]
    omega
  have h2 := evI_inv h1 p (by omega)
  have h3 : remL (s.2.1.drop (s.2.1.length - 2 * p)) p = [] := by unfold remL; rw [hul, Nat.sub_self, List.take_zero]
  rw [h3, List.append_nil] at h2
  exact h2
theorem evW_inv {T n : Nat} {R : List (Int × Int)} : ∀ (f : Nat) (s : EvS), KInv T s.1 (s.2.1 ++ (s.2.2 ++ R)) → KInv T (evW n f s).1 ((evW n f s).2.1 ++ ((evW n f s).2.2 ++ R))
  | 0, _, h => h
  | f + 1, s, h => by
    show KInv T (if n < s.2.1.length then evW n f (evR n s) else s).1 ((if n < s.2.1.length then evW n f (evR n s) else s).2.1 ++ ((if n < s.2.1.length then evW n f (evR n s) else s).2.2 ++ R))
    split
    · exact evW_inv f _ (evR_inv h)
    · exact h
theorem koF_inv {T : Nat} : ∀ (tk : List Int) (s s' : KoS), KInv T s.1 (s.2.1 ++ s.2.2) → s.2.1.length + s.2.2.length = T → koF tk s = some s' → KInv T s'.1 (s'.2.1 ++ s'.2.2) ∧ s'.2.1.length + s'.2.2.length = T
  | [], s, s', h, hl, e => by
    injection e with e; subst e; exact ⟨h, hl⟩
  | n :: ns, s, s', h, hl, e => by
    unfold koF at e
    split at e
    · cases e
    · have h1 := evW_inv (n := n.toNat) (R := s.2.2) s.2.1.length (s.1, s.2.1, []) (h.perm (fun x => by simp only [cntL_app]; show _ + (0 + _) = _; omega))
      have h2 := evW_len n.toNat s.2.1.length (s.1, s.2.1, [])
      refine koF_inv ns ((evW n.toNat s.2.1.length (s.1, s.2.1, [])).1, (evW n.toNat s.2.1.length (s.1, s.2.1, [])).2.2, s.2.2 ++ (evW n.toNat s.2.1.length (s.1, s.2.1, [])).2.1) s' (h1.perm (fun x => by simp only [cntL_app]; omega)) ?_ e
      dsimp only at h2 ⊢
      rw [List.length_append]
      simp only [List.length_nil, Nat.zero_add] at h2
      omega
theorem ko_ok {T : Int} {tk : List Int} (h : (koR T tk).1 = 0) : BrOk (koR T tk).2.1 (koR T tk).2.2.1 (koR T tk).2.2.2 := by
  unfold koR at h ⊢
  split at h
  · cases h
  · rename_i hn
    rw [if_neg hn]
    have hT : 2 ≤ T ∧ T ≤ 16 := by
      by_cases h : 2 ≤ T ∧ T ≤ 16
      · exact h
      · exact absurd (.inl h) hn
    cases hk : koF tk ([], seedL T.toNat, []) with
    | none => rw [hk] at h; cases h
    | some s =>
      rw [hk] at h
      dsimp only at h ⊢
      split at h
      · rename_i hg
        rw [if_pos hg]
        dsimp only
        obtain ⟨h1, h2⟩ := koF_inv (T := T.toNat) tk _ s ⟨fun x => by simp only [cntL_app]; show 0 + (_ + 0) = _ + 0; omega, fun i h => absurd h (Nat.not_lt_zero _)⟩ (by dsimp only; rw [seedL_len]; rfl) hk
        have hTT : ((T.toNat : Nat) : Int) = T := by omega
        have h3 : KInv T.toNat s.1 (s.2.2 ++ s.2.1.reverse) := h1.perm (fun x => by simp only [cntL_app, cntL_rev]; omega)
        refine ⟨hT, by omega, by rw [List.length_append, List.length_reverse]; omega, fun i hi => ?_, fun x hx => ?_, ?_⟩
        · have := h3.gm i hi
          rw [hTT] at this; exact this
        · have := h3.mem hx
          rw [hTT] at this; exact this
        · rw [cntL_nd]
          intro x
          rw [cntL_app, h3.cnt x]
          exact base_nd _ _ x
      · cases h
end Go.Proofs.Ytlfbbofcnonhdaa
