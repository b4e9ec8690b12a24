/- Plain law: prizes that are shared out. -/
import Derived.Test.YtlfbbofcnonhdaaPc
namespace Go.Proofs.Ytlfbbofcnonhdaa
open Go.RowKit Go.Proofs

/-- The prizes of n places behind the first o ones. -/
def seg (pz : List Int) (o n : Nat) : Int := ((pz.drop o).take n).sum
theorem take_sum (L : List Int) (n : Nat) : (L.take (n + 1)).sum = (L.take n).sum + L.getD n 0 := by
  rcases Nat.lt_or_ge n L.length with h | h
  · rw [List.take_succ_eq_append_getElem h, List.sum_append, List.getD_eq_getElem?_getD, List.getElem?_eq_getElem h]; simp
  · rw [List.take_of_length_le (by omega), List.take_of_length_le h, List.getD_eq_getElem?_getD, List.getElem?_eq_none h]; simp
theorem seg_succ (pz : List Int) (o n : Nat) : seg pz o (n + 1) = seg pz o n + pz.getD (o + n) 0 := by
  unfold seg
  rw [take_sum]
  congr 1
  rw [List.getD_eq_getElem?_getD, List.getD_eq_getElem?_getD, List.getElem?_drop]
theorem seg_ge (pz : List Int) (o : Nat) (v : Int) : ∀ n, (∀ k, k < n → v ≤ pz.getD (o + k) 0) → (n : Int) * v ≤ seg pz o n
  | 0, _ => by simp [seg]
  | n + 1, h => by
    have ih := seg_ge pz o v n (fun k hk => h k (by omega))
    have := h n (by omega)
    have e : ((n + 1 : Nat) : Int) * v = (n : Int) * v + v := by rw [Int.natCast_add, Int.add_mul]; simp
    rw [seg_succ, e]; omega
theorem seg_le (pz : List Int) (o : Nat) (v : Int) : ∀ n, (∀ k, k < n → pz.getD (o + k) 0 ≤ v) → seg pz o n ≤ (n : Int) * v
  | 0, _ => by simp [seg]
  | n + 1, h => by
    have ih := seg_le pz o v n (fun k hk => h k (by omega))
    have := h n (by omega)
    have e : ((n + 1 : Nat) : Int) * v = (n : Int) * v + v := by rw [Int.natCast_add, Int.add_mul]; simp
    rw [seg_succ, e]; omega
theorem seg_add (pz : List Int) (o m : Nat) : ∀ n, seg pz o (m + n) = seg pz o m + seg pz (o + m) n
  | 0 => by simp [seg]
  | n + 1 => by rw [← Nat.add_assoc, seg_succ, seg_add pz o m n, seg_succ, Nat.add_assoc]; omega
/-- The teams by places, each with how many are ahead, and with what it gets. -/
def trip (pz : List Int) : Nat → List (List Int) → List (Int × Nat × (Int × Int))
  | _, [] => []
  | o, d :: D => d.map (fun t => (t, o, shr (seg pz o d.length) d.length)) ++ trip pz (o + d.length) D
theorem trip_team (pz : List Int) : ∀ (o : Nat) (D : List (List Int)), (trip pz o D).map (·.1) = D.flatten
  | _, [] => rfl
  | o, d :: D => by
    show (d.map _ ++ trip pz (o + d.length) D).map _ = _
    rw [List.map_append, trip_team pz _ D, List.map_map, List.flatten_cons]
    congr 1
    exact List.map_id _
theorem tblG_trip (row : Int → Rw) (pz : List Int) : ∀ (D : List (List Int)) (out : List Rw), D.foldl (fun out d => out ++ d.map (plc row out.length)) out = out ++ (trip pz out.length D).map (fun x => plc row x.2.1 x.1)
  | [], out => by simp [trip]
  | d :: D, out => by
    rw [List.foldl_cons, tblG_trip row pz D]
    show _ = out ++ (d.map _ ++ trip pz (out.length + d.length) D).map _
    rw [List.length_append, List.length_map, List.map_append, List.append_assoc, List.map_map]
    rfl
theorem prS_trip (pz : List Int) : ∀ (D : List (List Int)) (o : Nat) (f : Int → Int × Int), D.flatten.Nodup →
    (∀ x ∈ trip pz o D, (D.foldl (fun s d => (s.1.drop d.length, fillS s.2 d (shr (s.1.take d.length).sum d.length))) (pz.drop o, f)).2 x.1 = x.2.2) ∧
    ∀ t, t ∉ D.flatten → (D.foldl (fun s d => (s.1.drop d.length, fillS s.2 d (shr (s.1.take d.length).sum d.length))) (pz.drop o, f)).2 t = f t
  | [], _, _, _ => ⟨nofun, fun _ _ => rfl⟩
  | d :: D, o, f, hn => by
    rw [List.flatten_cons, List.nodup_append] at hn
    obtain ⟨-, n2, n3⟩ := hn
    obtain ⟨h1, h2⟩ := prS_trip pz D (o + d.length) (fillS f d (shr (seg pz o d.length) d.length)) n2
    rw [List.foldl_cons]
    have e : ((pz.drop o).drop d.length, fillS f d (shr ((pz.drop o).take d.length).sum d.length)) = (pz.drop (o + d.length), fillS f d (shr (seg pz o d.length) d.length)) := by rw [List.drop_drop]; rfl
    dsimp only
    rw [e]
    refine ⟨fun x hx => ?_, fun t ht => ?_⟩
    · rcases List.mem_append.1 (show x ∈ d.map _ ++ trip pz (o + d.length) D from hx) with hx | hx
      · obtain ⟨t, ht, rfl⟩ := List.mem_map.1 hx
        rw [h2 t (fun hm => n3 t ht t hm rfl)]
        unfold fillS
        rw [if_pos ht]
      · exact h1 x hx
    · rw [List.flatten_cons, List.mem_append] at ht
      rw [h2 t (fun h => ht (.inr h))]
      unfold fillS
      rw [if_neg (fun h => ht (.inl h))]
theorem trip_own (pz : List Int) : ∀ (o : Nat) (D : List (List Int)), (∀ d ∈ D, d ≠ []) → ∀ x ∈ trip pz o D, ∃ n, 1 ≤ n ∧ x.2.2 = shr (seg pz x.2.1 n) n ∧ o ≤ x.2.1 ∧ x.2.1 + n ≤ o + D.flatten.length
  | o, d :: D, hne, x, hx => by
    have hd : 0 < d.length := List.length_pos_iff.2 (hne d (by simp))
    rw [List.flatten_cons, List.length_append]
    rcases List.mem_append.1 (show x ∈ d.map _ ++ trip pz (o + d.length) D from hx) with hx | hx
    · obtain ⟨t, ht, rfl⟩ := List.mem_map.1 hx
      exact ⟨d.length, hd, rfl, Nat.le_refl _, by dsimp only; omega⟩
    · obtain ⟨n, h1, h2, h3, h4⟩ := trip_own pz (o + d.length) D (fun e he => hne e (by simp [he])) x hx
      exact ⟨n, h1, h2, by omega, by omega⟩
theorem gcd_pos' {s n : Int} (hn : 0 < n) : 0 < (Int.gcd s n : Int) := by
  have := Int.gcd_pos_of_ne_zero_right s (show n ≠ 0 by omega)
  omega
/-- What a share is. -/
theorem shr_ok {s : Int} {n : Nat} (hs : 0 ≤ s) (hn : 1 ≤ n) : ∃ g : Int, 0 < g ∧ s = g * (shr s n).1 ∧ (n : Int) = g * (shr s n).2 ∧ 0 ≤ (shr s n).1 ∧ 1 ≤ (shr s n).2 ∧ (shr s n).2 ≤ n ∧ (shr s n).1 ≤ s ∧ Int.gcd (shr s n).1 (shr s n).2 = 1 := by
  have hg := gcd_pos' (s := s) (n := n) (by omega)
  have e1 : s = (Int.gcd s n : Int) * (s / (Int.gcd s n : Int)) := (Int.mul_ediv_cancel' (Int.gcd_dvd_left ..)).symm
  have e2 : (n : Int) = (Int.gcd s n : Int) * ((n : Int) / (Int.gcd s n : Int)) := (Int.mul_ediv_cancel' (Int.gcd_dvd_right ..)).symm
  refine ⟨Int.gcd s n, hg, e1, e2, Int.ediv_nonneg hs (by omega), ?_, Int.ediv_le_self _ (by omega), Int.ediv_le_self _ hs, ?_⟩
  · show 1 ≤ (n : Int) / _
    have : 0 < (n : Int) / (Int.gcd s n : Int) := Int.ediv_pos_of_pos_of_dvd (by omega) (by omega) (Int.gcd_dvd_right ..)
    omega
  · exact Int.gcd_ediv_gcd_ediv_gcd (by omega)
theorem shr_le {s1 s2 : Int} {n1 n2 : Nat} (h1 : 0 ≤ s1) (h2 : 0 ≤ s2) (hn1 : 1 ≤ n1) (hn2 : 1 ≤ n2) (h : s2 * n1 ≤ s1 * n2) : (shr s2 n2).1 * (shr s1 n1).2 ≤ (shr s1 n1).1 * (shr s2 n2).2 := by
  obtain ⟨g, q1, q2, q3, -⟩ := shr_ok h1 hn1
  obtain ⟨k, r1, r2, r3, -⟩ := shr_ok h2 hn2
  rw [q3, r3] at h
  generalize (shr s1 n1).1 = a at *
  generalize (shr s1 n1).2 = b at *
  generalize (shr s2 n2).1 = c at *
  generalize (shr s2 n2).2 = d at *
  rw [q2, r2] at h
  have e1 : k * c * (g * b) = (k * g) * (c * b) := by rw [Int.mul_assoc, ← Int.mul_assoc c g b, Int.mul_comm c g, Int.mul_assoc g c b, ← Int.mul_assoc]
  have e2 : g * a * (k * d) = (k * g) * (a * d) := by rw [Int.mul_assoc, ← Int.mul_assoc a k d, Int.mul_comm a k, Int.mul_assoc k a d, ← Int.mul_assoc, Int.mul_comm g k]
  rw [e1, e2] at h
  exact Int.le_of_mul_le_mul_left h (Int.mul_pos r1 q1)
/-- A part of the least common multiple. -/
def trm (o : Int × Int) : Int := o.1 * (720720 / o.2)
theorem dvd_all : ∀ b : Nat, b < 17 → 1 ≤ b → b ∣ 720720 := by decide
theorem trm_shr {s : Int} {n : Nat} (hs : 0 ≤ s) (hn : 1 ≤ n) (hn2 : n ≤ 16) : (n : Int) * trm (shr s n) = s * 720720 := by
  obtain ⟨g, q1, q2, q3, q4, q5, q6, -⟩ := shr_ok hs hn
  unfold trm
  generalize (shr s n).1 = a at *
  generalize (shr s n).2 = b at *
  obtain ⟨m, rfl⟩ := Int.eq_ofNat_of_zero_le (show 0 ≤ b by omega)
  have hd : ((m : Nat) : Int) ∣ 720720 := Int.natCast_dvd_natCast.2 (dvd_all m (by omega) (by omega))
  have e : (m : Int) * (720720 / (m : Int)) = 720720 := Int.mul_ediv_cancel' hd
  generalize 720720 / (m : Int) = c at *
  rw [q3, q2, ← e]
  rw [Int.mul_assoc, Int.mul_assoc, ← Int.mul_assoc m a c, Int.mul_comm (m : Int) a, Int.mul_assoc]
theorem trip_sum (pz : List Int) (h0 : ∀ x ∈ pz, 0 ≤ x) : ∀ (o : Nat) (D : List (List Int)), (∀ d ∈ D, d ≠ []) → D.flatten.length ≤ 16 → ((trip pz o D).map fun x => trm x.2.2).sum = seg pz o D.flatten.length * 720720
  | _, [], _, _ => by simp [trip, seg]
  | o, d :: D, hne, hl => by
    have hd : 0 < d.length := List.length_pos_iff.2 (hne d (by simp))
    rw [List.flatten_cons, List.length_append] at hl ⊢
    show ((d.map _ ++ trip pz (o + d.length) D).map _).sum = _
    rw [List.map_append, List.sum_append, trip_sum pz h0 (o + d.length) D (fun e he => hne e (by simp [he])) (by omega), seg_add, Int.add_mul]
    congr 1
    rw [List.map_map]
    have hs : 0 ≤ seg pz o d.length := by
      have := seg_ge pz o 0 d.length (fun k _ => by
        rw [List.getD_eq_getElem?_getD]
        cases hg : pz[o + k]? with
        | none => simp
        | some v => exact h0 v (List.mem_of_getElem? hg))
      omega
    rw [← trm_shr hs hd (by omega)]
    generalize shr (seg pz o d.length) d.length = q
    have : ∀ d : List Int, (d.map ((fun x : Int × Nat × (Int × Int) => trm x.2.2) ∘ fun t => (t, o, q))).sum = (d.length : Int) * trm q := by
      intro d
      induction d with
      | nil => simp
      | cons t d ih => rw [List.map_cons, List.sum_cons, ih, List.length_cons, Int.natCast_add, Int.add_mul]; simp; omega
    exact this d
theorem trip_pair (pz : List Int) (h0 : ∀ x ∈ pz, 0 ≤ x) : ∀ (o : Nat) (D : List (List Int)), (∀ d ∈ D, d ≠ []) → (trip pz o D).Pairwise (fun x y => (x.2.1 = y.2.1 → x.2.2 = y.2.2) ∧
    ((∀ i j, o ≤ i → i ≤ j → j < o + D.flatten.length → pz.getD j 0 ≤ pz.getD i 0) → y.2.2.1 * x.2.2.2 ≤ x.2.2.1 * y.2.2.2))
  | _, [], _ => List.Pairwise.nil
  | o, d :: D, hne => by
    have hd : 0 < d.length := List.length_pos_iff.2 (hne d (by simp))
    have hnn : ∀ o n, 0 ≤ seg pz o n := fun o n => by
      have := seg_ge pz o 0 n (fun k _ => by
        rw [List.getD_eq_getElem?_getD]
        cases hg : pz[o + k]? with
        | none => simp
        | some v => exact h0 v (List.mem_of_getElem? hg))
      omega
    rw [List.flatten_cons, List.length_append]
    show (d.map _ ++ trip pz (o + d.length) D).Pairwise _
    refine List.pairwise_append.2 ⟨?_, ?_, ?_⟩
    · refine List.pairwise_map.2 (List.pairwise_iff_forall_sublist.2 (fun _ => ⟨fun _ => rfl, fun _ => ?_⟩))
      dsimp only
      rw [Int.mul_comm]; exact Int.le_refl _
    · refine (trip_pair pz h0 (o + d.length) D (fun e he => hne e (by simp [he]))).imp (fun h => ⟨h.1, fun hf => h.2 (fun i j q1 q2 q3 => hf i j (by omega) q2 (by omega))⟩)
    · intro x hx y hy
      obtain ⟨t, ht, rfl⟩ := List.mem_map.1 hx
      obtain ⟨n, g1, g2, g3, g4⟩ := trip_own pz _ D (fun e he => hne e (by simp [he])) y hy
      dsimp only
      refine ⟨fun e => by omega, fun hf => ?_⟩
      rw [g2]
      refine shr_le (hnn _ _) (hnn _ _) hd g1 ?_
      have q1 := seg_ge pz o (pz.getD (o + d.length - 1) 0) d.length (fun k hk => hf _ _ (by omega) (by omega) (by omega))
      have q2 := seg_le pz y.2.1 (pz.getD (o + d.length - 1) 0) n (fun k hk => hf _ _ (by omega) (by omega) (by omega))
      generalize pz.getD (o + d.length - 1) 0 = v at q1 q2
      have q3 : seg pz y.2.1 n * (d.length : Int) ≤ (n : Int) * v * d.length := Int.mul_le_mul_of_nonneg_right q2 (by omega)
      have q4 : (d.length : Int) * v * (n : Int) ≤ seg pz o d.length * (n : Int) := Int.mul_le_mul_of_nonneg_right q1 (by omega)
      have e : (n : Int) * v * d.length = (d.length : Int) * v * n := by rw [Int.mul_comm ((n : Int) * v), ← Int.mul_assoc, Int.mul_right_comm]
      omega
/-- Do the first k prizes not rise? -/
def falB (pz : List Int) (k : Nat) : Bool := (List.range k).all fun i => decide (i = 0 ∨ pz.getD i 0 ≤ pz.getD (i - 1) 0)
theorem falB_succ (pz : List Int) (k : Nat) : falB pz (k + 1) = (falB pz k && decide (k = 0 ∨ pz.getD k 0 ≤ pz.getD (k - 1) 0)) := by
  unfold falB; rw [List.range_succ, List.all_append]; simp
theorem fal_anti {pz : List Int} (h0 : ∀ x ∈ pz, 0 ≤ x) {T : Nat} (h : falB pz (min pz.length T) = true) : ∀ i j, i ≤ j → j < T → pz.getD j 0 ≤ pz.getD i 0 := by
  have hnn : ∀ i, 0 ≤ pz.getD i 0 := fun i => by
    rw [List.getD_eq_getElem?_getD]
    cases hg : pz[i]? with
    | none => simp
    | some v => exact h0 v (List.mem_of_getElem? hg)
  have one : ∀ i, i + 1 < T → pz.getD (i + 1) 0 ≤ pz.getD i 0 := fun i hi => by
    rcases Nat.lt_or_ge (i + 1) pz.length with hl | hl
    · have := List.all_eq_true.1 h (i + 1) (List.mem_range.2 (by omega))
      have := of_decide_eq_true this
      rcases this with e | e
      · omega
      · exact e
    · have : pz.getD (i + 1) 0 = 0 := by rw [List.getD_eq_getElem?_getD, List.getElem?_eq_none hl]; rfl
      have := hnn i
      omega
  intro i j hij
  induction j with
  | zero => intro _; have : i = 0 := by omega
            subst this; exact Int.le_refl _
  | succ j ih =>
    intro hj
    rcases Nat.lt_or_ge i (j + 1) with q | q
    · have := ih (by omega) (by omega)
      have := one j hj
      omega
    · have : i = j + 1 := by omega
      subst this; exact Int.le_refl _
/-- What each row's team gets. -/
def ownP (p : List (Int × Int)) (r : Rw) : Int × Int := p.getD r.team.toNat (0, 0)
theorem apP_ne (l : List Re) : ∀ (f : Nat) (g : List Int), g ≠ [] → g.Pairwise (· < ·) → ∀ d ∈ apP l f g, d ≠ []
  | 0, g, hg, _, d, hd => by rw [List.mem_singleton.1 (show d ∈ [g] from hd)]; exact hg
  | f + 1, g, hg, ha, d, hd => by
    unfold apP at hd
    split at hd
    · rw [List.mem_singleton.1 hd]; exact hg
    · split at hd
      · obtain ⟨e, he, hde⟩ := List.mem_flatMap.1 hd
        exact apP_ne l f e (grps_part ha he).1 (grps_part ha he).2.1 d hde
      · exact (grps_part ha hd).1
theorem ordP_ne (l : List Re) (T : Nat) : ∀ d ∈ ordP l T, d ≠ [] := fun d hd => by
  obtain ⟨e, he, hde⟩ := List.mem_flatMap.1 hd
  exact apP_ne l T e (grps_part (allT_inc T) he).1 (grps_part (allT_inc T) he).2.1 d hde
/-- The law of prizes. -/
structure PrzOk (T : Int) (t : List Rw) (p : List (Int × Int)) (pz : List Int) : Prop where
  team : ∀ r ∈ t, 0 ≤ r.team ∧ r.team.toNat < p.length
  one : ∀ r ∈ t, (1 ≤ (ownP p r).2 ∧ (ownP p r).2 ≤ 16) ∧ (0 ≤ (ownP p r).1 ∧ (ownP p r).1 ≤ 16000000) ∧ Int.gcd (ownP p r).1 (ownP p r).2 = 1
  sum : (t.map fun r => trm (ownP p r)).sum = (pz.take T.toNat).sum * 720720
  pair : t.Pairwise (fun x y => (x.place = y.place → ownP p x = ownP p y) ∧ (falB pz (min pz.length T.toNat) = true → (ownP p y).1 * (ownP p x).2 ≤ (ownP p x).1 * (ownP p y).2))
theorem prz_ok {T : Int} {l : List Re} {pz : List Int} (h : przE T l pz = 0) : PrzOk T (tblP T l) (przP T l pz) pz := by
  have hc : chkE T l = 0 := by
    unfold przE at h
    split at h
    · omega
    · omega
  obtain ⟨hT, -, -⟩ := chk_ok hc
  have hpz : pz.length ≤ 16 ∧ ∀ x ∈ pz, 0 ≤ x ∧ x ≤ 1000000 := by
    unfold przE at h
    rw [if_neg (by omega)] at h
    split at h
    · omega
    · split at h
      · omega
      · rename_i h1 h2
        refine ⟨by omega, fun x hx => ?_⟩
        by_cases hb : 0 ≤ x ∧ x ≤ 1000000
        · exact hb
        · exact absurd (List.any_eq_true.2 ⟨x, hx, by simp [hb]⟩) h2
  have h0 : ∀ x ∈ pz, 0 ≤ x := fun x hx => (hpz.2 x hx).1
  have hperm := ordP_perm l T.toNat
  have hnd : (ordP l T.toNat).flatten.Nodup := hperm.nodup_iff.2 ((allT_inc _).imp (fun h e => by omega))
  have hlen : (ordP l T.toNat).flatten.length = T.toNat := by rw [hperm.length_eq, allT_len]
  have hne : ∀ d ∈ ordP l T.toNat, d ≠ [] := ordP_ne l T.toNat
  have ht : tblP T l = (trip pz 0 (ordP l T.toNat)).map (fun x => plc (rowN l) x.2.1 x.1) := by
    have := tblG_trip (rowN l) pz (ordP l T.toNat) []
    unfold tblP tblG
    rw [if_pos hc, this]; rfl
  have hown : ∀ x ∈ trip pz 0 (ordP l T.toNat), (plc (rowN l) x.2.1 x.1).team = x.1 ∧ (0 ≤ x.1 ∧ x.1 < T) ∧ ownP (przP T l pz) (plc (rowN l) x.2.1 x.1) = x.2.2 := by
    intro x hx
    have e1 : (plc (rowN l) x.2.1 x.1).team = x.1 := by
      show (rowN l x.1).team = _
      rw [rowN_ref (vl_of hc).ab]; exact row_team _
    have hm : x.1 ∈ allT T.toNat := by
      rw [← hperm.mem_iff, ← trip_team pz 0]
      exact List.mem_map.2 ⟨x, hx, rfl⟩
    have hb := allT_in hm
    refine ⟨e1, by omega, ?_⟩
    unfold ownP przP
    rw [if_pos h, e1, List.getD_eq_getElem?_getD, List.getElem?_eq_getElem (by rw [tabS_len]; omega), tabS_get]
    have := (prS_trip pz (ordP l T.toNat) 0 (fun _ => (0, 0)) hnd).1 x hx
    rw [List.drop_zero] at this
    unfold prS
    rw [show ((x.1.toNat : Nat) : Int) = x.1 by omega, this]; rfl
  refine ⟨?_, ?_, ?_, ?_⟩
  · intro r hr
    rw [ht] at hr
    obtain ⟨x, hx, rfl⟩ := List.mem_map.1 hr
    obtain ⟨h1, h2, -⟩ := hown x hx
    have : (przP T l pz).length = T.toNat := by unfold przP; rw [if_pos h, tabS_len]
    rw [h1, this]; omega
  · intro r hr
    rw [ht] at hr
    obtain ⟨x, hx, rfl⟩ := List.mem_map.1 hr
    obtain ⟨-, -, h3⟩ := hown x hx
    obtain ⟨n, g1, g2, -, g4⟩ := trip_own pz 0 _ hne x hx
    have s0 : 0 ≤ seg pz x.2.1 n := by
      have := seg_ge pz x.2.1 0 n (fun k _ => by
        rw [List.getD_eq_getElem?_getD]
        cases hg : pz[x.2.1 + k]? with
        | none => simp
        | some v => exact h0 v (List.mem_of_getElem? hg))
      omega
    have s1 : seg pz x.2.1 n ≤ (n : Int) * 1000000 := seg_le pz x.2.1 1000000 n (fun k _ => by
        rw [List.getD_eq_getElem?_getD]
        cases hg : pz[x.2.1 + k]? with
        | none => simp
        | some v => exact (hpz.2 v (List.mem_of_getElem? hg)).2)
    obtain ⟨g, -, -, -, q4, q5, q6, q7, q8⟩ := shr_ok s0 g1
    rw [h3, g2]
    omega
  · rw [ht, List.map_map]
    have e : (trip pz 0 (ordP l T.toNat)).map ((fun r => trm (ownP (przP T l pz) r)) ∘ fun x => plc (rowN l) x.2.1 x.1) = (trip pz 0 (ordP l T.toNat)).map fun x => trm x.2.2 :=
      List.map_congr_left (fun x hx => by show trm (ownP _ _) = _; rw [(hown x hx).2.2])
    rw [e, trip_sum pz h0 0 _ hne (by omega), hlen]
    unfold seg
    rw [List.drop_zero]
  · rw [ht, List.pairwise_map]
    refine List.pairwise_iff_forall_sublist.2 (fun {x y} hs => ?_)
    have hx := hown x (hs.subset (List.mem_cons_self ..))
    have hy := hown y (hs.subset (by simp : y ∈ [x, y]))
    have hp := psub (trip_pair pz h0 0 _ hne) _ _ hs
    rw [hx.2.2, hy.2.2]
    refine ⟨fun e => hp.1 ?_, fun hf => hp.2 (fun i j _ q2 q3 => fal_anti h0 hf i j q2 (by omega))⟩
    have e' : ((x.2.1 : Nat) : Int) + 1 = ((y.2.1 : Nat) : Int) + 1 := e
    omega
end Go.Proofs.Ytlfbbofcnonhdaa
