/- Plain law: the order of rows; two teams with the same wins, with which no third one has the same. -/
import Derived.Test.YtlfbbofcnonhdaaPa
namespace Go.Proofs.Ytlfbbofcnonhdaa
open Go.RowKit Go.Proofs

theorem psub {α : Type} {R : α → α → Prop} {L : List α} (h : L.Pairwise R) (x y : α) (hs : [x, y].Sublist L) : R x y := List.pairwise_iff_forall_sublist.1 h hs
/-- Is a result one of two teams? -/
def mtch (x : Re) (a b : Int) : Prop := (x.a = a ∧ x.b = b) ∨ (x.a = b ∧ x.b = a)
instance (x : Re) (a b : Int) : Decidable (mtch x a b) := by unfold mtch; infer_instance
/-- Who has won the game of two teams; or -1. -/
def mwS (a b w : Int) (x : Re) : Int := if mtch x a b then (if x.p0 < x.p1 then x.b else x.a) else w
def mwF (l : List Re) (a b : Int) : Int := l.foldl (mwS a b) (-1)
theorem mwF_snoc (l : List Re) (a b : Int) (k : Nat) (h : k < l.length) : mwF (l.take (k + 1)) a b = mwS a b (mwF (l.take k) a b) (l[k]'h) := by
  unfold mwF; rw [List.take_succ_eq_append_getElem h, List.foldl_append]; rfl
theorem mw_or (a b : Int) : ∀ (l : List Re) (w : Int), (∀ x ∈ l, x.p0 ≠ x.p1) → (l.foldl (mwS a b) w = w ∧ ∀ x ∈ l, ¬ mtch x a b) ∨ ∃ x ∈ l, mtch x a b ∧ l.foldl (mwS a b) w = wnr x
  | [], _, _ => .inl ⟨rfl, nofun⟩
  | x :: l, w, h => by
    rw [List.foldl_cons]
    rcases mw_or a b l (mwS a b w x) (fun y hy => h y (by simp [hy])) with ⟨h1, h2⟩ | ⟨y, h1, h2, h3⟩
    · rw [h1]
      unfold mwS
      by_cases hm : mtch x a b
      · rw [if_pos hm]
        refine .inr ⟨x, by simp, hm, ?_⟩
        have := h x (by simp)
        unfold wnr
        by_cases q : x.p0 < x.p1
        · rw [if_pos q, if_neg (by omega)]
        · rw [if_neg q, if_pos (by omega)]
      · rw [if_neg hm]
        refine .inl ⟨rfl, fun y hy => ?_⟩
        rcases List.mem_cons.1 hy with rfl | hy
        · exact hm
        · exact h2 y hy
    · exact .inr ⟨y, by simp [h1], h2, h3⟩
theorem mtch_key {r : Re} {x y : Int} (h : r.a ≠ r.b) : mtch r x y ↔ keyR r = (min x y, max x y) ∧ x ≠ y := by
  unfold mtch keyR
  rw [Prod.mk.injEq]
  omega
/-- What holds of one team ahead of another one, if they alone have their wins. -/
def QM (l : List Re) (x y : Int) : Prop := (∀ r ∈ l, mtch r x y → wnr r = x) ∧ ((∀ r ∈ l, ¬ mtch r x y) → msK l x ≤ msK l y)
theorem Grp.key_le {key : Int → Int} {g : List Int} {D : List (List Int)} (h : Grp key g D) {f : List Int → List (List Int)} (hf : ∀ d ∈ D, (f d).flatten.Perm d) : (D.flatMap f).flatten.Pairwise (fun x y => key x ≤ key y) := by
  have : ∀ (D : List (List Int)), (∀ d ∈ D, (f d).flatten.Perm d) → (∀ d ∈ D, ∀ x ∈ d, ∀ y ∈ d, key x = key y) → D.Pairwise (fun d e => ∀ x ∈ d, ∀ y ∈ e, key x < key y) → (D.flatMap f).flatten.Pairwise (fun x y => key x ≤ key y) := by
    intro D
    induction D with
    | nil => intro _ _ _; exact List.Pairwise.nil
    | cons d D ih =>
      intro h1 h2 h3
      rw [List.pairwise_cons] at h3
      rw [List.flatMap_cons, List.flatten_append, List.pairwise_append]
      have hm : ∀ x, x ∈ (D.flatMap f).flatten → ∃ e ∈ D, x ∈ e := by
        intro x hx
        rw [List.mem_flatten] at hx
        obtain ⟨e, he, hxe⟩ := hx
        obtain ⟨d', hd', he'⟩ := List.mem_flatMap.1 he
        exact ⟨d', hd', (h1 d' (by simp [hd'])).mem_iff.1 (List.mem_flatten.2 ⟨e, he', hxe⟩)⟩
      refine ⟨?_, ih (fun e he => h1 e (by simp [he])) (fun e he => h2 e (by simp [he])) h3.2, fun x hx y hy => ?_⟩
      · refine List.pairwise_iff_forall_sublist.2 (fun {x y} hs => ?_)
        have hx := (h1 d (by simp)).mem_iff.1 (hs.subset (List.mem_cons_self ..))
        have hy := (h1 d (by simp)).mem_iff.1 (hs.subset (by simp : y ∈ [x, y]))
        rw [h2 d (by simp) x hx y hy]; omega
      · obtain ⟨e, he, hye⟩ := hm y hy
        have := h3.1 e he x ((h1 d (by simp)).mem_iff.1 hx) y hye
        omega
  exact this D hf h.same h.lt
theorem flat_one' (D : List (List Int)) : (D.flatMap fun d => [d]).flatten = D.flatten := by
  induction D with
  | nil => rfl
  | cons d D ih => rw [List.flatMap_cons, List.flatten_append, ih]; simp
theorem ap_two {l : List Re} (h : Vl l) (f : Nat) {d : List Int} (hd : d.Pairwise (· < ·)) : (apP l (f + 1) d).flatten.Pairwise (fun x y => (∀ z ∈ d, z = x ∨ z = y) → QM l x y) := by
  have hp := apP_perm l (f + 1) d hd
  have hnd : d.Nodup := hd.imp (fun h e => by omega)
  have hne := psub ((hp.nodup_iff).2 hnd)
  have hq : ∀ x y, [x, y].Sublist (apP l (f + 1) d).flatten → x ∈ d ∧ y ∈ d ∧ x ≠ y := fun x y hs =>
    ⟨hp.mem_iff.1 (hs.subset (List.mem_cons_self ..)), hp.mem_iff.1 (hs.subset (by simp : y ∈ [x, y])), hne _ _ hs⟩
  refine List.pairwise_iff_forall_sublist.2 (fun {x y} hs hxy => ?_)
  obtain ⟨hx, hy, hn⟩ := hq x y hs
  obtain ⟨m1, m2⟩ := mtA_prs (wonM l) hd d.length (Nat.le_refl _)
  obtain ⟨p1, -, -⟩ := prs_ok hd d.length (Nat.le_refl _)
  rw [List.take_length] at p1
  have hpq : ∀ q, q ∈ prs d d.length ↔ q = (min x y, max x y) := by
    intro q
    rw [p1 q]
    constructor
    · rintro ⟨q1, q2, q3⟩
      have a1 := hxy _ q1
      have a2 := hxy _ q2
      obtain ⟨u, v⟩ := q
      rw [Prod.mk.injEq]
      dsimp only at a1 a2 q3
      omega
    · rintro rfl
      dsimp only
      rcases Int.lt_or_le x y with q | q
      · rw [Int.min_eq_left (by omega), Int.max_eq_right (by omega)]; exact ⟨hx, hy, q⟩
      · rw [Int.min_eq_right (by omega), Int.max_eq_left (by omega)]; exact ⟨hy, hx, by omega⟩
  have hpin : (min x y, max x y) ∈ prs d d.length := (hpq _).2 rfl
  have hW1 : ∀ w, wonM l (min x y, max x y) = some w → 1 ≤ mtW l d w ∧ ∀ v, v ≠ w → mtW l d v = 0 := by
    intro w hw
    unfold mtW
    rw [m2 w]
    refine ⟨?_, fun v hv => ?_⟩
    · have : (min x y, max x y) ∈ (prs d d.length).filter fun p => decide (wonM l p = some w) := List.mem_filter.2 ⟨hpin, decide_eq_true hw⟩
      have := List.length_pos_of_mem this
      omega
    · rw [m2 v]
      have : ((prs d d.length).filter fun p => decide (wonM l p = some v)) = [] := by
        rw [List.filter_eq_nil_iff]
        intro q hq
        rw [(hpq q).1 hq, hw, decide_eq_true_eq]
        intro e; injection e with e; exact hv e.symm
      rw [this]; rfl
  have hwin : ∀ r ∈ l, mtch r x y → wonM l (min x y, max x y) = some (wnr r) ∧ (wnr r = x ∨ wnr r = y) := by
    intro r hr hm
    refine ⟨(wonM_iff h _ _).2 ⟨r, hr, ((mtch_key (h.ab r hr)).1 hm).1, rfl⟩, ?_⟩
    unfold mtch at hm
    unfold wnr
    split <;> omega
  have hflag : (mtA (wonM l) d d.length).2 = true ↔ ∃ w, wonM l (min x y, max x y) = some w := by
    rw [m1, List.all_eq_true]
    constructor
    · intro hall
      exact Option.isSome_iff_exists.1 (hall _ hpin)
    · rintro hw q hq
      rw [(hpq q).1 hq]
      exact Option.isSome_iff_exists.2 hw
  have hlen : ¬ d.length < 2 := by
    intro hlt
    obtain _ | ⟨u, _ | ⟨v, d⟩⟩ := d
    · cases hx
    · rw [List.mem_singleton] at hx hy; omega
    · simp only [List.length_cons] at hlt; omega
  by_cases ha : mtAsk l d = true
  · have he : apP l (f + 1) d = (grps (fun a => -(mtW l d a)) d).flatMap (apP l f) := by
      conv => lhs; unfold apP
      rw [if_neg hlen, if_pos ha]
    rw [he] at hs
    have hk := psub ((grps_ok (fun a => -(mtW l d a)) hd).key_le (fun e he => apP_perm l f e (grps_part hd he).2.1)) _ _ hs
    have hm : (mtA (wonM l) d d.length).2 = true := by unfold mtAsk at ha; rw [Bool.and_eq_true] at ha; exact ha.1
    obtain ⟨w, hw⟩ := hflag.1 hm
    obtain ⟨r0, hr0, hk0, hw0⟩ := (wonM_iff h _ _).1 hw
    have hm0 : mtch r0 x y := (mtch_key (h.ab r0 hr0)).2 ⟨hk0, hn⟩
    obtain ⟨-, hxy0⟩ := hwin r0 hr0 hm0
    rw [hw0] at hxy0
    obtain ⟨hw1, hw2⟩ := hW1 w hw
    have hwx : w = x := by
      rcases hxy0 with e | e
      · exact e
      · exfalso
        rw [e] at hw1 hw2
        have := hw2 x hn
        omega
    refine ⟨fun r hr hmr => ?_, fun hno => absurd hm0 (hno r0 hr0)⟩
    have := (hwin r hr hmr).1
    rw [hw] at this
    injection this with this
    omega
  · have he : apP l (f + 1) d = grps (msK l) d := by
      conv => lhs; unfold apP
      rw [if_neg hlen, if_neg ha]
    rw [he] at hs
    have hk := (grps_ok (msK l) hd).key_le (f := fun d => [d]) (fun e _ => by simp)
    rw [flat_one'] at hk
    have hk := psub hk _ _ hs
    refine ⟨fun r hr hmr => ?_, fun _ => hk⟩
    exfalso
    obtain ⟨q1, q2⟩ := hwin r hr hmr
    obtain ⟨hw1, hw2⟩ := hW1 _ q1
    refine ha ?_
    unfold mtAsk
    rw [hflag.2 ⟨_, q1⟩, Bool.true_and]
    by_cases hany : (d.any (askP (mtA (wonM l) d d.length).1 d)) = true
    · exact hany
    · exfalso
      have hall : ∀ a ∈ d, mtW l d a = mtW l d (d.getD 0 0) := by
        intro a hx
        rcases Int.decEq (mtW l d a) (mtW l d (d.getD 0 0)) with q | q
        · exact absurd (List.any_eq_true.2 ⟨a, hx, decide_eq_true q⟩) hany
        · exact q
      have e1 := hall x hx
      have e2 := hall y hy
      rcases q2 with e | e
      · rw [e] at hw1 hw2
        have := hw2 y (fun e => hn e.symm)
        omega
      · rw [e] at hw1 hw2
        have := hw2 x hn
        omega
/-- The teams' order. -/
theorem ord_pair {T : Int} {l : List Re} (hc : chkE T l = 0) : (ordP l T.toNat).flatten.Pairwise (fun x y => (rowN l y).wins ≤ (rowN l x).wins ∧ ((rowN l y).wins = (rowN l x).wins → (∀ z ∈ allT T.toNat, (rowN l z).wins = (rowN l x).wins → z = x ∨ z = y) → QM l x y)) := by
  have h := vl_of hc
  obtain ⟨h1, -, -⟩ := chk_ok hc
  obtain ⟨f, hf⟩ : ∃ f, T.toNat = f + 1 := ⟨T.toNat - 1, by omega⟩
  have hG := grps_ok (wnK l) (allT_inc T.toNat)
  have hs1 := psub (hG.key_le (fun d hd => apP_perm l T.toNat d (grps_part (allT_inc _) hd).2.1))
  have key : ∀ (D : List (List Int)), (∀ d ∈ D, d.Pairwise (· < ·) ∧ (∀ z ∈ d, z ∈ allT T.toNat) ∧ ∀ x ∈ d, ∀ y ∈ d, wnK l x = wnK l y) → D.Pairwise (fun d e => ∀ x ∈ d, ∀ y ∈ e, wnK l x < wnK l y) →
      (D.flatMap (apP l T.toNat)).flatten.Pairwise (fun x y => (rowN l y).wins = (rowN l x).wins → (∀ z ∈ allT T.toNat, (rowN l z).wins = (rowN l x).wins → z = x ∨ z = y) → QM l x y) := by
    intro D
    induction D with
    | nil => intro _ _; exact List.Pairwise.nil
    | cons d D ih =>
      intro q1 q2
      rw [List.pairwise_cons] at q2
      obtain ⟨d1, d2, d3⟩ := q1 d (by simp)
      have hpd := apP_perm l T.toNat d d1
      rw [List.flatMap_cons, List.flatten_append, List.pairwise_append]
      refine ⟨?_, ih (fun e he => q1 e (by simp [he])) q2.2, fun x hx y hy hw => ?_⟩
      · have := ap_two h f d1
        rw [← hf] at this
        refine List.pairwise_iff_forall_sublist.2 (fun {x y} hs _ htw => psub this _ _ hs (fun z hz => htw z (d2 z hz) ?_))
        have := d3 z hz x (hpd.mem_iff.1 (hs.subset (List.mem_cons_self ..)))
        unfold wnK at this
        omega
      · exfalso
        rw [List.mem_flatten] at hy
        obtain ⟨e, he, hye⟩ := hy
        obtain ⟨d', hd', he'⟩ := List.mem_flatMap.1 he
        have hyd := (apP_perm l T.toNat d' (q1 d' (by simp [hd'])).1).mem_iff.1 (List.mem_flatten.2 ⟨e, he', hye⟩)
        have := q2.1 d' hd' x (hpd.mem_iff.1 hx) y hyd
        unfold wnK at this
        omega
  have hs2 := psub (key (grps (wnK l) (allT T.toNat)) (fun d hd => ⟨(grps_part (allT_inc _) hd).2.1, (grps_part (allT_inc _) hd).2.2.1, hG.same d hd⟩) hG.lt)
  refine List.pairwise_iff_forall_sublist.2 (fun {x y} hs => ⟨?_, hs2 _ _ hs⟩)
  have := hs1 _ _ hs
  unfold wnK at this
  omega
/-! Rows by places. -/
def np (r : Rw) : Rw := { r with place := 0 }
theorem tblG_np (row : Int → Rw) (D : List (List Int)) : (tblG row D).map np = D.flatten.map fun t => np (row t) := by
  have : ∀ (D : List (List Int)) (out : List Rw), (D.foldl (fun out d => out ++ d.map (plc row out.length)) out).map np = out.map np ++ D.flatten.map fun t => np (row t) := by
    intro D
    induction D with
    | nil => intro out; simp
    | cons d D ih =>
      intro out
      rw [List.foldl_cons, ih, List.map_append, List.flatten_cons, List.map_append, List.append_assoc, List.map_map]
      rfl
  have := this D []
  unfold tblG
  rw [this]; rfl
theorem refR_team (x : Re) (t : Int) (p : Rw × Int) : (refR x t p).1.team = p.1.team := by
  unfold refR sideU; split
  · rfl
  · split <;> rfl
theorem row_team {l : List Re} (t : Int) : (refRow l t).team = t := by
  have : ∀ (l : List Re) (p : Rw × Int), (l.foldl (fun p x => refR x t p) p).1.team = p.1.team := by
    intro l
    induction l with
    | nil => intro _; rfl
    | cons x l ih => intro p; rw [List.foldl_cons, ih, refR_team]
  have := this l (⟨t, 0, 0, 0, 0, 0, 0, 0⟩, 0)
  unfold refRow cutR refF
  split <;> exact this
theorem tbl_get {T : Int} {l : List Re} (hc : chkE T l = 0) (i : Nat) (hi : i < (tblP T l).length) : ∃ hf : i < (ordP l T.toNat).flatten.length, np ((tblP T l)[i]'hi) = np (rowN l ((ordP l T.toNat).flatten[i]'hf)) ∧ ((tblP T l)[i]'hi).team = (ordP l T.toNat).flatten[i]'hf := by
  have he : tblP T l = tblG (rowN l) (ordP l T.toNat) := if_pos hc
  have hl : (tblP T l).length = (ordP l T.toNat).flatten.length := by rw [he, tblG_len]
  have hm := tblG_np (rowN l) (ordP l T.toNat)
  rw [← he] at hm
  have h1 : np ((tblP T l)[i]'hi) = np (rowN l ((ordP l T.toNat).flatten[i]'(by omega))) := by
    have e1 : ((tblP T l).map np)[i]'(by simpa using hi) = np ((tblP T l)[i]'hi) := List.getElem_map ..
    have e2 : ((ordP l T.toNat).flatten.map fun t => np (rowN l t))[i]'(by rw [List.length_map]; omega) = np (rowN l ((ordP l T.toNat).flatten[i]'(by omega))) := List.getElem_map ..
    rw [← e1, ← e2]
    simp only [hm]
  refine ⟨by omega, h1, ?_⟩
  have := congrArg Rw.team h1
  rw [rowN_ref (vl_of hc).ab] at this
  rw [show ((tblP T l)[i]'hi).team = (np ((tblP T l)[i]'hi)).team from rfl, this]
  exact row_team _
theorem sub_pair {α : Type} {l : List α} {i j : Nat} (hij : i < j) (hj : j < l.length) : [l[i]'(by omega), l[j]'hj].Sublist l := by
  have h1 : l = l.take j ++ l.drop j := (List.take_append_drop j l).symm
  have h2 : l.drop j = l[j]'hj :: l.drop (j + 1) := List.drop_eq_getElem_cons hj
  have h3 : l[i]'(by omega) ∈ l.take j := by
    rw [List.mem_iff_getElem]
    exact ⟨i, by rw [List.length_take]; omega, List.getElem_take ..⟩
  conv => rhs; rw [h1, h2]
  exact (List.singleton_sublist.2 h3).append (List.Sublist.cons_cons _ (List.nil_sublist _))
/-- The law: two rows, one behind the other. -/
theorem meet_ok {T : Int} {l : List Re} (hc : chkE T l = 0) (i : Nat) (h1 : 1 ≤ i) (hi : i < (tblP T l).length) (hw : ((tblP T l)[i - 1]'(by omega)).wins = ((tblP T l)[i]'hi).wins)
    (h2 : ∀ h : 2 ≤ i, ((tblP T l)[i - 2]'(by omega)).wins ≠ ((tblP T l)[i - 1]'(by omega)).wins) (h3 : ∀ h : i + 1 < (tblP T l).length, ((tblP T l)[i + 1]'h).wins ≠ ((tblP T l)[i - 1]'(by omega)).wins) :
    (0 ≤ mwF l ((tblP T l)[i - 1]'(by omega)).team ((tblP T l)[i]'hi).team → mwF l ((tblP T l)[i - 1]'(by omega)).team ((tblP T l)[i]'hi).team = ((tblP T l)[i - 1]'(by omega)).team) ∧
    (mwF l ((tblP T l)[i - 1]'(by omega)).team ((tblP T l)[i]'hi).team < 0 → 0 < ((tblP T l)[i - 1]'(by omega)).draws → 0 < ((tblP T l)[i]'hi).draws →
      ((tblP T l)[i - 1]'(by omega)).len * ((tblP T l)[i]'hi).draws ≤ ((tblP T l)[i]'hi).len * ((tblP T l)[i - 1]'(by omega)).draws) := by
  have hv := vl_of hc
  have hall : (tblP T l).length = (ordP l T.toNat).flatten.length := by rw [show tblP T l = tblG (rowN l) (ordP l T.toNat) from if_pos hc, tblG_len]
  have W : ∀ j (hj : j < (tblP T l).length), ((tblP T l)[j]'hj).wins = (rowN l ((ordP l T.toNat).flatten[j]'(by omega))).wins := fun j hj => by
    obtain ⟨_, q, -⟩ := tbl_get hc j hj
    have := congrArg Rw.wins q
    exact this
  have P := psub (ord_pair hc)
  obtain ⟨f0, a1, a2⟩ := tbl_get hc (i - 1) (by omega)
  obtain ⟨f1, b1, b2⟩ := tbl_get hc i hi
  have d1 : ∀ j (hj : j < (tblP T l).length), ((tblP T l)[j]'hj).draws = (rowN l ((ordP l T.toNat).flatten[j]'(by omega))).draws := fun j hj => by
    obtain ⟨_, q, -⟩ := tbl_get hc j hj
    have := congrArg Rw.draws q
    exact this
  have l1 : ∀ j (hj : j < (tblP T l).length), ((tblP T l)[j]'hj).len = (rowN l ((ordP l T.toNat).flatten[j]'(by omega))).len := fun j hj => by
    obtain ⟨_, q, -⟩ := tbl_get hc j hj
    have := congrArg Rw.len q
    exact this
  rw [a2, b2, d1 _ (by omega), d1 _ hi, l1 _ (by omega), l1 _ hi]
  rw [W _ (by omega), W _ hi] at hw
  have hQ : QM l ((ordP l T.toNat).flatten[i - 1]'f0) ((ordP l T.toNat).flatten[i]'f1) := by
    refine (P _ _ (sub_pair (i := i - 1) (j := i) (by omega) f1)).2 hw.symm (fun z hz hzw => ?_)
    obtain ⟨j, hj, rfl⟩ := List.mem_iff_getElem.1 ((ordP_perm l T.toNat).mem_iff.2 hz)
    by_cases e1 : j = i - 1
    · subst e1; exact .inl rfl
    · by_cases e2 : j = i
      · subst e2; exact .inr rfl
      · exfalso
        rcases Nat.lt_or_ge j (i - 1) with q | q
        · have h2' := h2 (by omega)
          rw [W _ (by omega), W _ (by omega)] at h2'
          have q1 := (P _ _ (sub_pair (i := i - 2) (j := i - 1) (by omega) f0)).1
          rcases Nat.lt_or_ge j (i - 2) with q3 | q3
          · have q2 := (P _ _ (sub_pair (i := j) (j := i - 2) q3 (by omega))).1
            omega
          · have : j = i - 2 := by omega
            subst this
            exact h2' hzw
        · have h3' := h3 (by omega)
          rw [W _ (by omega), W _ (by omega)] at h3'
          have q1 := (P _ _ (sub_pair (i := i) (j := i + 1) (by omega) (by omega))).1
          rcases Nat.lt_or_ge (i + 1) j with q3 | q3
          · have q2 := (P _ _ (sub_pair (i := i + 1) (j := j) q3 hj)).1
            omega
          · have : j = i + 1 := by omega
            subst this
            exact h3' hzw
  generalize (ordP l T.toNat).flatten[i - 1]'f0 = x at *
  generalize (ordP l T.toNat).flatten[i]'f1 = y at *
  rcases mw_or x y l (-1) hv.pp with ⟨m1, m2⟩ | ⟨r, m1, m2, m3⟩
  · have m1' : mwF l x y = -1 := m1
    refine ⟨fun h => by omega, fun _ q1 q2 => ?_⟩
    have h5 := hQ.2 m2
    have h6 := (ms_cvk l hv.n hv.b (fun _ => True) y x trivial trivial).1
    unfold msC at h6
    rw [if_neg (by omega), (cmpI_lt _ _).1] at h6
    omega
  · have m3' : mwF l x y = wnr r := m3
    have h5 := hQ.1 r m1 m2
    refine ⟨fun _ => by rw [m3', h5], fun h _ _ => ?_⟩
    exfalso
    obtain ⟨-, -, h7⟩ := chk_ok hc
    obtain ⟨-, h8, h9, -, -⟩ := vld_b (h7 r m1)
    unfold wnr at m3'
    split at m3' <;> omega
end Go.Proofs.Ytlfbbofcnonhdaa
