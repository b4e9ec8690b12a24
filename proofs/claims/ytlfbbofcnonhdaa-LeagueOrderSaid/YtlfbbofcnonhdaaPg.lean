/- Plain law: a table does not depend on the order of results; what a table is. -/
import Derived.Test.YtlfbbofcnonhdaaPe
namespace Go.Proofs.Ytlfbbofcnonhdaa
open Go.RowKit Go.Proofs

/-- A result with the teams exchanged; the one of the two with the lesser team first. -/
def swR (x : Re) : Re := ⟨x.b, x.a, x.p1, x.p0, x.m1, x.m0⟩
def nrR (x : Re) : Re := if x.a ≤ x.b then x else swR x
theorem nrR_or (x : Re) : nrR x = x ∨ nrR x = swR x := by unfold nrR; split <;> simp
theorem nrR_sw {x : Re} (h : x.a ≠ x.b) : nrR (swR x) = nrR x := by
  unfold nrR
  by_cases q : x.a ≤ x.b
  · rw [if_pos q, if_neg (show ¬ (swR x).a ≤ (swR x).b by show ¬ x.b ≤ x.a; omega)]; rfl
  · rw [if_neg q, if_pos (show (swR x).a ≤ (swR x).b by show x.b ≤ x.a; omega)]
theorem vld_sw (T : Int) (x : Re) : vldB T (swR x) = vldB T x := by
  unfold vldB swR
  rw [decide_eq_decide]
  dsimp only
  omega
theorem vld_nr (T : Int) (x : Re) : vldB T (nrR x) = vldB T x := by
  rcases nrR_or x with e | e <;> rw [e]
  exact vld_sw T x
theorem key_nr (x : Re) : keyR (nrR x) = keyR x := by
  rcases nrR_or x with e | e <;> rw [e]
  unfold keyR swR
  rw [Prod.mk.injEq]
  dsimp only
  omega
theorem wnr_nr {x : Re} (h : x.p0 ≠ x.p1) : wnr (nrR x) = wnr x := by
  rcases nrR_or x with e | e <;> rw [e]
  unfold wnr swR
  dsimp only
  by_cases q : x.p1 < x.p0
  · rw [if_pos q, if_neg (by omega)]
  · rw [if_neg q, if_pos (by omega)]
theorem refR_nr {x : Re} (h : x.a ≠ x.b) (t : Int) (p : Rw × Int) : refR (nrR x) t p = refR x t p := by
  rcases nrR_or x with e | e <;> rw [e]
  unfold refR swR
  dsimp only
  by_cases q1 : x.a = t
  · rw [if_pos q1, if_neg (by omega), if_pos q1]
  · rw [if_neg q1]
    by_cases q2 : x.b = t
    · rw [if_pos q2, if_neg q1]
    · rw [if_neg q2, if_neg q1]
theorem sideU_comm (r : Rw) (p q m p' q' m' : Int) : sideU (sideU r p q m) p' q' m' = sideU (sideU r p' q' m') p q m := by
  unfold sideU
  obtain ⟨a, b, c, d, e, f, g, h⟩ := r
  dsimp only
  rw [Rw.mk.injEq]
  refine ⟨rfl, rfl, rfl, ?_, ?_, ?_, rfl, ?_⟩
  · split <;> split <;> rfl
  all_goals omega
theorem refR_comm (x y : Re) (t : Int) (p : Rw × Int) : refR x t (refR y t p) = refR y t (refR x t p) := by
  unfold refR
  by_cases a : x.a = t
  · simp only [if_pos a]
    by_cases c : y.a = t
    · simp only [if_pos c]; rw [sideU_comm, Prod.mk.injEq]; exact ⟨rfl, by omega⟩
    · simp only [if_neg c]
      by_cases d : y.b = t
      · simp only [if_pos d]; rw [sideU_comm, Prod.mk.injEq]; exact ⟨rfl, by omega⟩
      · simp only [if_neg d]
  · simp only [if_neg a]
    by_cases b : x.b = t
    · simp only [if_pos b]
      by_cases c : y.a = t
      · simp only [if_pos c]; rw [sideU_comm, Prod.mk.injEq]; exact ⟨rfl, by omega⟩
      · simp only [if_neg c]
        by_cases d : y.b = t
        · simp only [if_pos d]; rw [sideU_comm, Prod.mk.injEq]; exact ⟨rfl, by omega⟩
        · simp only [if_neg d]
    · simp only [if_neg b]
theorem refF_nr (t : Int) : ∀ (l : List Re) (p : Rw × Int), (∀ x ∈ l, x.a ≠ x.b) → (l.map nrR).foldl (fun p x => refR x t p) p = l.foldl (fun p x => refR x t p) p
  | [], _, _ => rfl
  | x :: l, p, h => by
    rw [List.map_cons, List.foldl_cons, List.foldl_cons, refR_nr (h x (by simp)), refF_nr t l _ (fun y hy => h y (by simp [hy]))]
theorem okR_of {T : Int} : ∀ {s : List (Int × Int)} {l : List Re}, (∀ x ∈ l, vldB T x = true) → (l.map keyR).Nodup → (∀ k ∈ l.map keyR, k ∉ s) → okR T s l = true
  | _, [], _, _, _ => rfl
  | s, x :: l, h1, h2, h3 => by
    rw [List.map_cons, List.nodup_cons] at h2
    unfold okR
    rw [Bool.and_eq_true, Bool.and_eq_true]
    refine ⟨⟨h1 x (by simp), ?_⟩, okR_of (fun y hy => h1 y (by simp [hy])) h2.2 (fun k hk hs => ?_)⟩
    · simpa using h3 (keyR x) (by simp)
    · rcases List.mem_cons.1 hs with e | hs
      · rw [e] at hk; exact h2.1 hk
      · exact h3 k (by rw [List.map_cons]; exact List.mem_cons_of_mem _ hk) hs
/-- Other results: another order, another team named first. -/
structure Oth (l o : List Re) : Prop where
  p : (o.map nrR).Perm (l.map nrR)
theorem oth_ins {l : List Re} {o : List Re} {k at_ : Nat} (h : Oth (l.take k) o) (hk : k < l.length) {x : Re} (hx : x = l[k]'hk ∨ x = swR (l[k]'hk)) (hab : (l[k]'hk).a ≠ (l[k]'hk).b) : Oth (l.take (k + 1)) (o.take at_ ++ [x] ++ o.drop at_) := by
  constructor
  have e : nrR x = nrR (l[k]'hk) := by
    rcases hx with rfl | rfl
    · rfl
    · exact nrR_sw hab
  rw [List.take_succ_eq_append_getElem hk, List.map_append, List.map_append, List.map_append, List.map_singleton, List.map_singleton, e]
  have h1 : ((o.take at_).map nrR ++ [nrR (l[k]'hk)] ++ (o.drop at_).map nrR).Perm ((o.take at_).map nrR ++ (o.drop at_).map nrR ++ [nrR (l[k]'hk)]) := by
    rw [List.append_assoc, List.append_assoc]
    exact List.Perm.append_left _ List.perm_append_comm
  refine h1.trans ?_
  rw [← List.map_append, List.take_append_drop]
  exact h.p.append_right _
theorem oth_same {T : Int} {l o : List Re} (hc : chkE T l = 0) (h : Oth l o) : chkE T o = 0 ∧ tblP T o = tblP T l := by
  have hv := vl_of hc
  obtain ⟨hT, hn, hvl⟩ := chk_ok hc
  have hm : ∀ y ∈ o, ∃ x ∈ l, nrR x = nrR y := fun y hy => by
    have := h.p.mem_iff.1 (List.mem_map.2 ⟨y, hy, rfl⟩)
    obtain ⟨x, hx, e⟩ := List.mem_map.1 this
    exact ⟨x, hx, e⟩
  have hlen : o.length = l.length := by have := h.p.length_eq; simpa using this
  have ovl : ∀ y ∈ o, vldB T y = true := fun y hy => by
    obtain ⟨x, hx, e⟩ := hm y hy
    rw [← vld_nr, ← e, vld_nr]; exact hvl x hx
  have hk : (o.map keyR).Perm (l.map keyR) := by
    have := h.p.map keyR
    rw [List.map_map, List.map_map] at this
    rw [show keyR = keyR ∘ nrR from funext fun x => (key_nr x).symm]
    exact this
  have ho : chkE T o = 0 := by
    unfold chkE
    rw [if_neg (by omega), if_neg (by omega), if_pos (okR_of ovl (hk.nodup_iff.2 hv.nd) (fun _ _ => by simp))]
  have hvo := vl_of ho
  refine ⟨ho, ?_⟩
  have hrow : rowN o = rowN l := by
    rw [rowN_ref hvo.ab, rowN_ref hv.ab]
    funext t
    have : refF o t = refF l t := by
      unfold refF
      rw [← refF_nr t o _ hvo.ab, ← refF_nr t l _ hv.ab]
      exact h.p.foldl_eq' (fun x _ y _ z => refR_comm y x t z) _
    unfold refRow
    rw [this]
  have hwon : wonM o = wonM l := by
    funext k
    refine Option.ext (fun v => ?_)
    rw [wonM_iff hvo, wonM_iff hv]
    have two : ∀ {a b : List Re}, Vl a → Vl b → (a.map nrR).Perm (b.map nrR) → (∃ x ∈ a, keyR x = k ∧ wnr x = v) → ∃ x ∈ b, keyR x = k ∧ wnr x = v := by
      intro a b ha hb hp ⟨x, hx, h1, h2⟩
      obtain ⟨y, hy, e⟩ := List.mem_map.1 (hp.mem_iff.1 (List.mem_map.2 ⟨x, hx, rfl⟩))
      refine ⟨y, hy, ?_, ?_⟩
      · rw [← key_nr, e, key_nr]; exact h1
      · rw [← wnr_nr (hb.pp y hy), e, wnr_nr (ha.pp x hx)]; exact h2
    exact ⟨two hvo hv h.p, two hv hvo h.p.symm⟩
  have hms : msK o = msK l := by funext a; unfold msK; rw [hrow]
  have hap : ∀ f g, apP o f g = apP l f g := by
    intro f
    induction f with
    | zero => intro g; rfl
    | succ f ih =>
      intro g
      have e1 : mtAsk o g = mtAsk l g := by unfold mtAsk; rw [hwon]
      have e2 : (fun a => -(mtW o g a)) = fun a => -(mtW l g a) := by funext a; unfold mtW; rw [hwon]
      have e3 : apP o f = apP l f := funext ih
      unfold apP
      rw [e1, e2, e3, hms]
  have hord : ordP o T.toNat = ordP l T.toNat := by
    unfold ordP
    rw [show wnK o = wnK l by funext a; unfold wnK; rw [hrow], show apP o T.toNat = apP l T.toNat from funext (hap _)]
  unfold tblP
  rw [if_pos ho, if_pos hc, hrow, hord]
/-! What a table is. -/
theorem apP_asc (l : List Re) : ∀ (f : Nat) (g : List Int), g.Pairwise (· < ·) → ∀ d ∈ apP l f g, d.Pairwise (· < ·)
  | 0, g, ha, d, hd => by rw [List.mem_singleton.1 (show d ∈ [g] from hd)]; exact ha
  | f + 1, g, ha, d, hd => by
    unfold apP at hd
    split at hd
    · rw [List.mem_singleton.1 hd]; exact ha
    · split at hd
      · obtain ⟨e, he, hde⟩ := List.mem_flatMap.1 hd
        exact apP_asc l f e (grps_part ha he).2.1 d hde
      · exact (grps_part ha hd).2.1
theorem ordP_grp (l : List Re) (T : Nat) : ∀ d ∈ ordP l T, d.Pairwise (· < ·) ∧ ∀ x ∈ d, ∀ y ∈ d, (rowN l x).wins = (rowN l y).wins := fun d hd => by
  obtain ⟨e, he, hde⟩ := List.mem_flatMap.1 hd
  have ha := (grps_part (allT_inc T) he).2.1
  refine ⟨apP_asc l T e ha d hde, fun x hx y hy => ?_⟩
  have hm : ∀ x ∈ d, x ∈ e := fun x hx => (apP_perm l T e ha).mem_iff.1 (List.mem_flatten.2 ⟨d, hde, hx⟩)
  have := (grps_ok (wnK l) (allT_inc T)).same e he x (hm x hx) y (hm y hy)
  unfold wnK at this
  omega
theorem trip_grp (pz : List Int) (wn : Int → Int) : ∀ (o : Nat) (D : List (List Int)), (∀ d ∈ D, d ≠ []) → (∀ d ∈ D, d.Pairwise (· < ·) ∧ ∀ x ∈ d, ∀ y ∈ d, wn x = wn y) → (trip pz o D).Pairwise (fun x y => x.2.1 ≤ y.2.1 ∧ (x.2.1 = y.2.1 → wn x.1 = wn y.1 ∧ x.1 < y.1))
  | _, [], _, _ => List.Pairwise.nil
  | o, d :: D, hne, h => by
    have hd : 0 < d.length := List.length_pos_iff.2 (hne d (by simp))
    show (d.map _ ++ trip pz (o + d.length) D).Pairwise _
    obtain ⟨h1, h2⟩ := h d (by simp)
    refine List.pairwise_append.2 ⟨?_, trip_grp pz wn _ D (fun e he => hne e (by simp [he])) (fun e he => h e (by simp [he])), ?_⟩
    · refine List.pairwise_map.2 (List.pairwise_iff_forall_sublist.2 (fun {x y} hs => ⟨Nat.le_refl _, fun _ => ⟨h2 x (hs.subset (List.mem_cons_self ..)) y (hs.subset (by simp : y ∈ [x, y])), psub h1 _ _ hs⟩⟩))
    · intro x hx y hy
      obtain ⟨t, ht, rfl⟩ := List.mem_map.1 hx
      obtain ⟨n, g1, g2, g3, g4⟩ := trip_own pz _ D (fun e he => hne e (by simp [he])) y hy
      exact ⟨by dsimp only; omega, fun e => by dsimp only at e; omega⟩
theorem trip_ix (pz : List Int) : ∀ (o : Nat) (D : List (List Int)) (i : Nat) (h : i < (trip pz o D).length), ((trip pz o D)[i]'h).2.1 ≤ o + i ∧ (i = 0 → ((trip pz o D)[i]'h).2.1 = o) ∧ (∀ q : 0 < i, ((trip pz o D)[i]'h).2.1 = ((trip pz o D)[i - 1]'(by omega)).2.1 ∨ ((trip pz o D)[i]'h).2.1 = o + i)
  | _, [], _, h => by simp [trip] at h
  | o, d :: D, i, h => by
    have hl : (trip pz o (d :: D)).length = d.length + (trip pz (o + d.length) D).length := by
      show (d.map _ ++ trip pz (o + d.length) D).length = _
      rw [List.length_append, List.length_map]
    have hL : ∀ j (hj : j < d.length) (hj' : j < (trip pz o (d :: D)).length), ((trip pz o (d :: D))[j]'hj').2.1 = o := by
      intro j hj hj'
      have e : (trip pz o (d :: D))[j]'hj' = (d.map (fun t => (t, o, shr (seg pz o d.length) d.length)))[j]'(by rw [List.length_map]; exact hj) := List.getElem_append_left ..
      rw [e, List.getElem_map]
    have hR : ∀ j (hj : d.length ≤ j) (hj' : j < (trip pz o (d :: D)).length), (trip pz o (d :: D))[j]'hj' = (trip pz (o + d.length) D)[j - d.length]'(by omega) := by
      intro j hj hj'
      have e : (trip pz o (d :: D))[j]'hj' = (trip pz (o + d.length) D)[j - (d.map (fun t => (t, o, shr (seg pz o d.length) d.length))).length]'(by rw [List.length_map]; omega) := List.getElem_append_right (by rw [List.length_map]; exact hj)
      rw [e]
      congr 1
      rw [List.length_map]
    rcases Nat.lt_or_ge i d.length with q | q
    · rw [hL i q h]
      exact ⟨by omega, fun _ => rfl, fun q0 => .inl (hL (i - 1) (by omega) (by omega)).symm⟩
    · rw [hR i q h]
      obtain ⟨h1, h2, h3⟩ := trip_ix pz (o + d.length) D (i - d.length) (by omega)
      refine ⟨by omega, fun e => ?_, fun q0 => ?_⟩
      · rw [h2 (by omega)]; omega
      · rcases Nat.lt_or_ge d.length i with q1 | q1
        · rw [hR (i - 1) (by omega) (by omega)]
          rcases h3 (by omega) with e | e
          · left
            rw [e]
            congr 2
            have e9 : i - d.length - 1 = i - 1 - d.length := by omega
            simp only [e9]
          · right; omega
        · right
          rw [h2 (by omega)]; omega
/-- The sums of a table. -/
def sumG (f : Rw → Int) (t : List Rw) (k : Nat) : Int := ((t.take k).map f).sum
theorem sumG_succ (f : Rw → Int) (t : List Rw) (k : Nat) (h : k < t.length) : sumG f t (k + 1) = sumG f t k + f (t[k]'h) := by
  unfold sumG; rw [List.take_succ_eq_append_getElem h, List.map_append, List.sum_append]; simp
/-- The law of a table. -/
structure TabOk (T : Int) (n : Nat) (t : List Rw) : Prop where
  team : ∀ r ∈ t, (0 ≤ r.team ∧ r.team < T) ∧ 1 ≤ r.place ∧ (0 ≤ r.games ∧ r.games ≤ 600) ∧ (0 ≤ r.wins ∧ r.wins ≤ 600) ∧ (0 ≤ r.fr ∧ r.fr ≤ 600000) ∧ (0 ≤ r.ag ∧ r.ag ≤ 600000)
  uniq : t.Pairwise (fun x y => x.team ≠ y.team)
  place : ∀ i (h : i < t.length), (t[i]'h).place ≤ (i : Int) + 1
  next : ∀ i (h : i < t.length) (q : 0 < i), (t[i]'h).wins ≤ (t[i - 1]'(by omega)).wins ∧ (t[i - 1]'(by omega)).place ≤ (t[i]'h).place ∧ ((t[i]'h).place ≠ (t[i - 1]'(by omega)).place → (t[i]'h).place = (i : Int) + 1) ∧ ((t[i]'h).place = (t[i - 1]'(by omega)).place → (t[i]'h).wins = (t[i - 1]'(by omega)).wins ∧ (t[i - 1]'(by omega)).team ≤ (t[i]'h).team)
  games : sumG (·.games) t t.length = 2 * n
  wins : sumG (·.wins) t t.length = n
  pts : sumG (fun r => r.fr - r.ag) t t.length = 0
theorem sum_ind {T : Nat} (v a : Int) (h : 0 ≤ a ∧ a < T) : ((allT T).map fun t => if a = t then v else 0).sum = v := by
  have : ∀ T : Nat, ((allT T).map fun t => if a = t then v else 0).sum = if 0 ≤ a ∧ a < T then v else 0 := by
    intro T
    induction T with
    | zero => rw [if_neg (by omega)]; rfl
    | succ T ih =>
      rw [allT_succ, List.map_append, List.sum_append, ih]
      simp only [List.map_cons, List.map_nil, List.sum_cons, List.sum_nil]
      by_cases q : a = (T : Int)
      · rw [if_neg (by omega), if_pos q, if_pos (by omega)]; omega
      · rw [if_neg q]
        by_cases q2 : 0 ≤ a ∧ a < (T : Int)
        · rw [if_pos q2, if_pos (by omega)]; omega
        · rw [if_neg q2, if_neg (by omega)]; omega
  rw [this, if_pos h]
theorem perm_sum {a b : List Int} (h : a.Perm b) : a.sum = b.sum := by
  induction h with
  | nil => rfl
  | cons x _ ih => rw [List.sum_cons, List.sum_cons, ih]
  | swap x y l => simp only [List.sum_cons]; omega
  | trans _ _ h1 h2 => rw [h1, h2]
theorem sum_add (f g : Int → Int) : ∀ L : List Int, (L.map fun t => f t + g t).sum = (L.map f).sum + (L.map g).sum
  | [] => rfl
  | x :: L => by simp only [List.map_cons, List.sum_cons, sum_add f g L]; omega
/-- What a result adds to the rows. -/
theorem ref_sum {T : Nat} (f : Rw → Int) (u : Re → Bool → Int) (hu : ∀ (x : Re) (t : Int) (p : Rw × Int), x.a ≠ x.b → f (refR x t p).1 = f p.1 + ((if x.a = t then u x true else 0) + (if x.b = t then u x false else 0))) :
    ∀ (l : List Re) (F : Int → Rw × Int), (∀ x ∈ l, x.a ≠ x.b ∧ (0 ≤ x.a ∧ x.a < T) ∧ (0 ≤ x.b ∧ x.b < T)) → ((allT T).map fun t => f (l.foldl (fun p x => refR x t p) (F t)).1).sum = ((allT T).map fun t => f (F t).1).sum + (l.map fun x => u x true + u x false).sum
  | [], F, _ => by simp
  | x :: l, F, h => by
    obtain ⟨h1, h2, h3⟩ := h x (by simp)
    have ih := ref_sum f u hu l (fun t => refR x t (F t)) (fun y hy => h y (by simp [hy]))
    simp only [List.foldl_cons]
    rw [ih, List.map_cons, List.sum_cons]
    have e : (fun t => f (refR x t (F t)).1) = fun t => f (F t).1 + ((if x.a = t then u x true else 0) + (if x.b = t then u x false else 0)) := funext fun t => hu x t _ h1
    rw [e, sum_add, sum_add, sum_ind _ _ h2, sum_ind _ _ h3]
    omega
theorem tab_ok {T : Int} {l : List Re} (hc : chkE T l = 0) : TabOk T l.length (tblP T l) := by
  have hv := vl_of hc
  obtain ⟨hT, hn, hvl⟩ := chk_ok hc
  have hperm := ordP_perm l T.toNat
  have hne := ordP_ne l T.toNat
  have ht : tblP T l = (trip [] 0 (ordP l T.toNat)).map (fun x => plc (rowN l) x.2.1 x.1) := by
    have := tblG_trip (rowN l) [] (ordP l T.toNat) []
    unfold tblP tblG
    rw [if_pos hc, this]; rfl
  have hteam : ∀ t, (rowN l t).team = t := fun t => by rw [rowN_ref hv.ab]; exact row_team t
  have hsum : ∀ f : Rw → Int, (∀ r n, f { r with place := n } = f r) → sumG f (tblP T l) (tblP T l).length = ((allT T.toNat).map fun t => f (rowN l t)).sum := by
    intro f hf
    unfold sumG
    rw [List.take_length, ht, List.map_map]
    have e : (f ∘ fun x : Int × Nat × (Int × Int) => plc (rowN l) x.2.1 x.1) = (fun t => f (rowN l t)) ∘ (·.1) := funext fun x => hf _ _
    rw [e, ← List.map_map, trip_team]
    exact perm_sum (hperm.map _)
  have hin : ∀ x ∈ l, x.a ≠ x.b ∧ (0 ≤ x.a ∧ x.a < (T.toNat : Int)) ∧ (0 ≤ x.b ∧ x.b < (T.toNat : Int)) := fun x hx => by
    obtain ⟨-, h1, h2, h3, -⟩ := vld_b (hvl x hx)
    exact ⟨h3, by omega, by omega⟩
  have hfold : ∀ (f : Rw → Int) (u : Re → Bool → Int), (∀ r g, f (cutR r g) = f r) → (∀ t, f ⟨t, 0, 0, 0, 0, 0, 0, 0⟩ = 0) → (∀ (x : Re) (t : Int) (p : Rw × Int), x.a ≠ x.b → f (refR x t p).1 = f p.1 + ((if x.a = t then u x true else 0) + (if x.b = t then u x false else 0))) →
      ((allT T.toNat).map fun t => f (rowN l t)).sum = (l.map fun x => u x true + u x false).sum := by
    intro f u h1 h2 h3
    have := ref_sum (T := T.toNat) f u h3 l (fun t => (⟨t, 0, 0, 0, 0, 0, 0, 0⟩, 0)) hin
    rw [rowN_ref hv.ab]
    unfold refRow refF
    simp only [h1]
    rw [this]
    simp only [h2]
    have : ∀ L : List Int, (L.map fun _ => (0 : Int)).sum = 0 := fun L => by induction L with
      | nil => rfl
      | cons x L ih => rw [List.map_cons, List.sum_cons, ih]; rfl
    rw [this]; omega
  have hconst : ∀ (L : List Re) (c : Int) (u : Re → Int), (∀ x ∈ L, u x = c) → (L.map u).sum = c * L.length := by
    intro L c u h
    induction L with
    | nil => simp
    | cons x L ih =>
      rw [List.map_cons, List.sum_cons, ih (fun y hy => h y (by simp [hy])), h x (by simp), List.length_cons, Int.natCast_add, Int.mul_add]; simp; omega
  have hP := psub (trip_grp [] (fun t => (rowN l t).wins) 0 _ hne (ordP_grp l T.toNat))
  have hW := psub (ord_pair hc)
  refine ⟨?_, ?_, ?_, ?_, ?_, ?_, ?_⟩
  · intro r hr
    rw [ht] at hr
    obtain ⟨x, hx, rfl⟩ := List.mem_map.1 hr
    have hm : x.1 ∈ allT T.toNat := by
      rw [← hperm.mem_iff, ← trip_team [] 0]
      exact List.mem_map.2 ⟨x, hx, rfl⟩
    have hb := allT_in hm
    have hr := raw_b l x.1 hv.b
    obtain ⟨q1, q2, q3, q4, q5, -⟩ := hr
    have e1 : ∀ r g, (cutR r g).games = r.games := fun r g => by unfold cutR; split <;> rfl
    have e3 : ∀ r g, (cutR r g).fr = r.fr := fun r g => by unfold cutR; split <;> rfl
    have e4 : ∀ r g, (cutR r g).ag = r.ag := fun r g => by unfold cutR; split <;> rfl
    refine ⟨?_, ?_, ?_, ?_, ?_, ?_⟩
    · show 0 ≤ (rowN l x.1).team ∧ (rowN l x.1).team < T
      rw [hteam]; omega
    · show 1 ≤ ((x.2.1 : Nat) : Int) + 1
      omega
    · show 0 ≤ (rowN l x.1).games ∧ (rowN l x.1).games ≤ 600
      unfold rowN; rw [e1]; omega
    · show 0 ≤ (rowN l x.1).wins ∧ (rowN l x.1).wins ≤ 600
      unfold rowN; rw [cutR_wins]; omega
    · show 0 ≤ (rowN l x.1).fr ∧ (rowN l x.1).fr ≤ 600000
      unfold rowN; rw [e3]; omega
    · show 0 ≤ (rowN l x.1).ag ∧ (rowN l x.1).ag ≤ 600000
      unfold rowN; rw [e4]; omega
  · rw [ht, List.pairwise_map]
    have hnd : ((trip [] 0 (ordP l T.toNat)).map (·.1)).Nodup := by
      rw [trip_team]
      exact hperm.nodup_iff.2 ((allT_inc _).imp (fun h e => by omega))
    rw [List.Nodup, List.pairwise_map] at hnd
    refine hnd.imp (fun {x y} h => ?_)
    show (rowN l x.1).team ≠ (rowN l y.1).team
    rw [hteam, hteam]; exact h
  · intro i h
    have hi : i < (trip [] 0 (ordP l T.toNat)).length := by rw [ht, List.length_map] at h; exact h
    have e : (tblP T l)[i]'h = plc (rowN l) ((trip [] 0 (ordP l T.toNat))[i]'hi).2.1 ((trip [] 0 (ordP l T.toNat))[i]'hi).1 := by simp only [ht, List.getElem_map]
    rw [e]
    have := (trip_ix [] 0 (ordP l T.toNat) i hi).1
    show (((trip [] 0 (ordP l T.toNat))[i]'hi).2.1 : Int) + 1 ≤ _
    omega
  · intro i h q
    have hi : i < (trip [] 0 (ordP l T.toNat)).length := by rw [ht, List.length_map] at h; exact h
    have e : ∀ j (hj : j < (tblP T l).length) (hj' : j < (trip [] 0 (ordP l T.toNat)).length), (tblP T l)[j]'hj = plc (rowN l) ((trip [] 0 (ordP l T.toNat))[j]'hj').2.1 ((trip [] 0 (ordP l T.toNat))[j]'hj').1 := fun j hj hj' => by simp only [ht, List.getElem_map]
    rw [e i h hi, e (i - 1) (by omega) (by omega)]
    obtain ⟨-, -, h3⟩ := trip_ix [] 0 (ordP l T.toNat) i hi
    have h3 := h3 q
    have hs := sub_pair (l := trip [] 0 (ordP l T.toNat)) (i := i - 1) (j := i) (by omega) hi
    have h4 := hP _ _ hs
    have hs2 := hs.map (·.1)
    rw [trip_team] at hs2
    have h5 := (hW _ _ hs2).1
    generalize (trip [] 0 (ordP l T.toNat))[i]'hi = y at *
    generalize (trip [] 0 (ordP l T.toNat))[i - 1]'(by omega) = x at *
    show (rowN l y.1).wins ≤ (rowN l x.1).wins ∧ ((x.2.1 : Nat) : Int) + 1 ≤ ((y.2.1 : Nat) : Int) + 1 ∧ (((y.2.1 : Nat) : Int) + 1 ≠ ((x.2.1 : Nat) : Int) + 1 → ((y.2.1 : Nat) : Int) + 1 = (i : Int) + 1) ∧ (((y.2.1 : Nat) : Int) + 1 = ((x.2.1 : Nat) : Int) + 1 → (rowN l y.1).wins = (rowN l x.1).wins ∧ (rowN l x.1).team ≤ (rowN l y.1).team)
    rw [hteam, hteam]
    refine ⟨h5, by omega, fun hne => by omega, fun he => ?_⟩
    obtain ⟨g1, g2⟩ := h4.2 (by omega)
    exact ⟨g1.symm, by omega⟩
  · rw [hsum _ (fun _ _ => rfl), hfold (·.games) (fun _ _ => 1) (fun r g => by unfold cutR; split <;> rfl) (fun _ => rfl) (fun x t p hab => by
      unfold refR
      by_cases q1 : x.a = t
      · have q2 : ¬ x.b = t := by omega
        simp [q1, q2, sideU]
      · by_cases q2 : x.b = t <;> simp [q1, q2, sideU])]
    exact hconst l 2 (fun _ => 1 + 1) (fun _ _ => rfl)
  · rw [hsum _ (fun _ _ => rfl), hfold (·.wins) (fun x s => if s then (if x.p1 < x.p0 then 1 else 0) else (if x.p0 < x.p1 then 1 else 0)) (fun r g => by unfold cutR; split <;> rfl) (fun _ => rfl) (fun x t p hab => by
      unfold refR
      by_cases q1 : x.a = t
      · have q2 : ¬ x.b = t := by omega
        simp only [if_pos q1, if_neg q2, sideU]
        by_cases q3 : x.p1 < x.p0 <;> simp [q3]
      · simp only [if_neg q1]
        by_cases q2 : x.b = t
        · simp only [if_pos q2, sideU]
          by_cases q3 : x.p0 < x.p1 <;> simp [q3]
        · simp [if_neg q2]), hconst l 1 _ (fun x hx => by
      have := hv.pp x hx
      by_cases q : x.p1 < x.p0
      · have q2 : ¬ x.p0 < x.p1 := by omega
        simp [q, q2]
      · have q2 : x.p0 < x.p1 := by omega
        simp [q, q2])]
    omega
  · rw [hsum _ (fun _ _ => rfl), hfold (fun r => r.fr - r.ag) (fun x s => if s then x.p0 - x.p1 else x.p1 - x.p0) (fun r g => by unfold cutR; split <;> rfl) (fun _ => rfl) (fun x t p hab => by
      unfold refR
      by_cases q1 : x.a = t
      · have q2 : ¬ x.b = t := by omega
        simp only [if_pos q1, if_neg q2, sideU]; simp; omega
      · simp only [if_neg q1]
        by_cases q2 : x.b = t
        · simp only [if_pos q2, sideU]; simp; omega
        · simp [if_neg q2]), hconst l 0 _ (fun x _ => by simp; omega)]
    omega
end Go.Proofs.Ytlfbbofcnonhdaa
