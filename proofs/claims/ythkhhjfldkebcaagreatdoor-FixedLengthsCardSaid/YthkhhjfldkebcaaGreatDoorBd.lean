/- Contracts: plus, minus. -/
import Derived.Test.YthkhhjfldkebcaaGreatDoorBc
namespace Go.Proofs.YthkhhjfldkebcaaGreatDoor
open Go.RowKit Go.Proofs Go.Shelf

theorem bval_take' (l : List Nat) (i : Nat) : bval (l.take (i + 1)) = bval (l.take i) + l.getD i 0 * 32768 ^ i := by
  rcases Nat.lt_or_ge i l.length with h | h
  · exact bval_take h
  · rw [List.take_of_length_le (by omega), List.take_of_length_le h, List.getD_eq_getElem?_getD, List.getElem?_eq_none h]
    simp
/-- A digit is kept, the rest is carried. -/
theorem plus_rel {l : List Nat} {i c s S T : Nat} (hp : Parts l) (hl : l.length = i) (h : bval l + c * 32768 ^ i = S) (hs : T = S + (s - c) * 32768 ^ i) (hc : c ≤ s) :
    Parts (l ++ [s % 32768]) ∧ (l ++ [s % 32768]).length = i + 1 ∧ bval (l ++ [s % 32768]) + s / 32768 * 32768 ^ (i + 1) = T := by
  subst hl
  refine ⟨hp.snoc (Nat.mod_lt _ (by decide)), by simp, ?_⟩
  have h1 : bval l + s * 32768 ^ l.length = T := by
    rw [hs, ← h]
    have : s * 32768 ^ l.length = c * 32768 ^ l.length + (s - c) * 32768 ^ l.length := by
      rw [← Nat.add_mul, Nat.add_sub_cancel' hc]
    omega
  have := of_step h1
  rwa [List.length_append, List.length_singleton] at this

set_option maxHeartbeats 4000000 in
theorem plus_parts (va vb : Value) (a b : List Nat) (w : World) (ha : Big w va a) (hb : Big w vb b) (ca : Can a) (cb : Can b) (la : a.length ≤ 200) (lb : b.length ≤ 200) :
    Calls Tryz.prog 110 #[va, vb] w (BigOut w (bval a + bval b)) := by
  obtain ⟨A, capa, rfl, -, -, h3⟩ := ha
  obtain ⟨B, capb, rfl, -, -, h6⟩ := hb
  have H3 := Lib.hid h3
  have H6 := Lib.hid h6
  have CA := Lib.hid ca
  have CB := Lib.hid cb
  obtain ⟨i0, hi, hz0, hz1, hz2⟩ := info_parts Tryz.info3
  obtain ⟨n, hn⟩ : ∃ n, a.length = n := ⟨_, rfl⟩
  obtain ⟨m, hm⟩ : ∃ m, b.length = m := ⟨_, rfl⟩
  have HNA := Lib.hid hn
  have HNB := Lib.hid hm
  rw [hn] at la ⊢
  rw [hm] at lb ⊢
  clear h3 h6 ca cb hn hm
  go_enter Tryz.func110, Tryz.ntmps110
  go_wp2_with fail
  go_loopw [5, 6, 7] (fun out cv iv wr => ∃ (i c : Nat) (l : List Nat), iv = .int .i64 i ∧ cv = .int .i64 c ∧ c ≤ 1 ∧ i ≤ 201 ∧ Hid (Parts l) ∧ Hid (l.length = i) ∧ Hid (bval l + c * 32768 ^ i = bval (a.take i) + bval (b.take i)) ∧
      Hid (i = 0 ∨ 32768 ^ (i - 1) ≤ bval a + bval b) ∧ wr.ownsRow w.heap.size 3 1 out i (l.map pv) ∧ Below w.heap.size w wr)
    (fun _ cv iv _ => 2 * (2000 - (intOf iv).toNat) + (intOf cv).toNat)
  case atStart => exact ⟨0, 0, [], rfl, rfl, by omega, by omega, Parts.nil, rfl, by show _ = _; simp [bval], .inl rfl, World.ownsRow_nil _ _ _ _, Below.refl _ _⟩
  case round =>
    obtain ⟨i, c, l, rfl, rfl, hc, hi1, hp, hl, hv, hg, hown, hbl⟩ := hrel
    have HB := Lib.hid hbl
    have hs := hbl.size
    have ta := bval_take' a i
    have tb := bval_take' b i
    have HTA := Lib.hid ta
    have HTB := Lib.hid tb
    clear ta tb
    have hA : i < n → ∃ g, A = some ⟨g, 0, none⟩ ∧ wr.cell? ⟨g, i, none⟩ = some (pv (a.getD i 0)) ∧ 32768 ^ i ≤ bval a := fun h => by
      have hne : a ≠ [] := by intro h0; have := HNA.out; rw [h0] at this; simp at this; omega
      obtain ⟨g, hA, hcell⟩ := H3.out hne
      exact ⟨g, hA, upc (hcell i (by rw [HNA.out]; exact h)) hbl, Nat.le_trans (Nat.pow_le_pow_right (by decide) (by rw [HNA.out]; omega)) (CA.out.ge hne)⟩
    have hB : i < m → ∃ g, B = some ⟨g, 0, none⟩ ∧ wr.cell? ⟨g, i, none⟩ = some (pv (b.getD i 0)) ∧ 32768 ^ i ≤ bval b := fun h => by
      have hne : b ≠ [] := by intro h0; have := HNB.out; rw [h0] at this; simp at this; omega
      obtain ⟨g, hA, hcell⟩ := H6.out hne
      exact ⟨g, hA, upc (hcell i (by rw [HNB.out]; exact h)) hbl, Nat.le_trans (Nat.pow_le_pow_right (by decide) (by rw [HNB.out]; omega)) (CB.out.ge hne)⟩
    have da1 := CA.out.1.get i
    have db1 := CB.out.1.get i
    have na : ¬ i < n → a.getD i 0 = 0 := fun h => by rw [List.getD_eq_getElem?_getD, List.getElem?_eq_none (by rw [HNA.out]; omega)]; rfl
    have nb : ¬ i < m → b.getD i 0 = 0 := fun h => by rw [List.getD_eq_getElem?_getD, List.getElem?_eq_none (by rw [HNB.out]; omega)]; rfl
    obtain ⟨da, hda⟩ : ∃ d, a.getD i 0 = d := ⟨_, rfl⟩
    obtain ⟨db, hdb⟩ : ∃ d, b.getD i 0 = d := ⟨_, rfl⟩
    rw [hda] at hA na da1
    rw [hdb] at hB nb db1
    have HDA := Lib.hid hda
    have HDB := Lib.hid hdb
    have HHA := Lib.hid hA
    have HHB := Lib.hid hB
    have NA := Lib.hid na
    have NB := Lib.hid nb
    clear hda hdb hA hB na nb hbl
    have HI : Hid (∀ (s : Nat) (v' : Value) (w1 : World) (o : Obj), s = c + da + db → i < 201 → 32768 ^ i ≤ bval a + bval b → w1.ownsRow w.heap.size 3 1 v' (i + 1) (l.map pv ++ [pv (s % 32768)]) → Below w.heap.size w w1 →
        ∃ (i' c' : Nat) (l' : List Nat), Value.int .i64 (i + 1 : Nat) = .int .i64 i' ∧ Value.int .i64 (s / 32768 : Nat) = .int .i64 c' ∧ c' ≤ 1 ∧ i' ≤ 201 ∧ Hid (Parts l') ∧ Hid (l'.length = i') ∧ Hid (bval l' + c' * 32768 ^ i' = bval (a.take i') + bval (b.take i')) ∧
      Hid (i' = 0 ∨ 32768 ^ (i' - 1) ≤ bval a + bval b) ∧ w1.ownsRow w.heap.size 3 1 v' i' (l'.map pv) ∧ Below w.heap.size w w1) := by
      intro s v' w1 o hs hi' hge ho hb1
      have R := plus_rel (s := s) (T := bval (a.take (i + 1)) + bval (b.take (i + 1))) hp.out hl.out hv.out (by
        rw [HTA.out, HTB.out, HDA.out, HDB.out, show s - c = da + db by omega, Nat.add_mul]; omega) (by omega)
      exact ⟨i + 1, s / 32768, l ++ [s % 32768], rfl, rfl, by omega, by omega, R.1, R.2.1, R.2.2, .inr (by simpa using hge), by simpa using ho, hb1⟩
    by_cases e1 : i < n
    · obtain ⟨g1, rfl, cell1, ge1⟩ := HHA.out e1
      have e1' : (i : Int) < (n : Int) := by omega
      have G1 := Lib.hid ge1
      clear ge1
      by_cases e2 : i < m
      · obtain ⟨g2, rfl, cell2, -⟩ := HHB.out e2
        have e2' : (i : Int) < (m : Int) := by omega
        go_wp2_with (at_builtin; refine wpList_append_own _ rfl _ _ 96 rfl w.heap.size 3 i0 (.int .i64 0) 1 8 Tryz.underlying96 hi hz0 hz1 hz2 rfl (by decide) _ _ _ rfl (hown.alloc _) ⟨wr.heap.size, 0, none⟩ 1 1 [.int .i64 (((c : Int) + (da : Int) + (db : Int)) % 32768)] rfl rfl (cell_one_new _ _ _) (by intro u hu; simp at hu; subst hu; rfl) (by unfold maxLen; omega) (by omega) (by simp; omega) ?_; intro v' w1 hown' hgrow _)
        have hb' : Below w.heap.size w w1 := (HB.out.alloc HB.out.size _).grown hgrow (by have := HB.out.size; simp; omega) (fun k hk => (hown.lt k hk).1)
        have HO := HI.out (c + da + db) v' w1 (.map #[] 0) rfl (by omega) (by have := G1.out; omega) (by simpa [pv] using hown') hb'
        have HH := Lib.hid HO
        clear hown' hgrow hown HO cell1 cell2 hb'
        go_wp2_with fail
        go_roundw
        case rel => simpa using HH.out
        case measure => simp [intOf]; omega
      · have e2' : decide ((i : Int) < (m : Int)) = false := by simp; omega
        have e2n : decide (i < m) = false := by simpa using e2
        obtain rfl := NB.out e2
        go_wp2_with (at_builtin; refine wpList_append_own _ rfl _ _ 96 rfl w.heap.size 3 i0 (.int .i64 0) 1 8 Tryz.underlying96 hi hz0 hz1 hz2 rfl (by decide) _ _ _ rfl (hown.alloc _) ⟨wr.heap.size, 0, none⟩ 1 1 [.int .i64 (((c : Int) + (da : Int)) % 32768)] rfl rfl (cell_one_new _ _ _) (by intro u hu; simp at hu; subst hu; rfl) (by unfold maxLen; omega) (by omega) (by simp; omega) ?_; intro v' w1 hown' hgrow _)
        have hb' : Below w.heap.size w w1 := (HB.out.alloc HB.out.size _).grown hgrow (by have := HB.out.size; simp; omega) (fun k hk => (hown.lt k hk).1)
        have HO := HI.out (c + da) v' w1 (.map #[] 0) (by omega) (by omega) (by have := G1.out; omega) (by simpa [pv] using hown') hb'
        have HH := Lib.hid HO
        clear hown' hgrow hown HO cell1 hb'
        go_wp2_with fail
        go_roundw
        case rel => simpa using HH.out
        case measure => simp [intOf]; omega
    · have e1' : decide ((i : Int) < (n : Int)) = false := by simp; omega
      have e1n : decide (i < n) = false := by simpa using e1
      obtain rfl := NA.out e1
      by_cases e2 : i < m
      · obtain ⟨g2, rfl, cell2, ge2⟩ := HHB.out e2
        have e2' : (i : Int) < (m : Int) := by omega
        have G2 := Lib.hid ge2
        clear ge2
        go_wp2_with (at_builtin; refine wpList_append_own _ rfl _ _ 96 rfl w.heap.size 3 i0 (.int .i64 0) 1 8 Tryz.underlying96 hi hz0 hz1 hz2 rfl (by decide) _ _ _ rfl (hown.alloc _) ⟨wr.heap.size, 0, none⟩ 1 1 [.int .i64 (((c : Int) + (db : Int)) % 32768)] rfl rfl (cell_one_new _ _ _) (by intro u hu; simp at hu; subst hu; rfl) (by unfold maxLen; omega) (by omega) (by simp; omega) ?_; intro v' w1 hown' hgrow _)
        have hb' : Below w.heap.size w w1 := (HB.out.alloc HB.out.size _).grown hgrow (by have := HB.out.size; simp; omega) (fun k hk => (hown.lt k hk).1)
        have HO := HI.out (c + db) v' w1 (.map #[] 0) (by omega) (by omega) (by have := G2.out; omega) (by simpa [pv] using hown') hb'
        have HH := Lib.hid HO
        clear hown' hgrow hown HO cell2 hb'
        go_wp2_with fail
        go_roundw
        case rel => simpa using HH.out
        case measure => simp [intOf]; omega
      · have e2' : decide ((i : Int) < (m : Int)) = false := by simp; omega
        have e2n : decide (i < m) = false := by simpa using e2
        obtain rfl := NB.out e2
        have hv' := hv.out
        rw [List.take_of_length_le (by rw [HNA.out]; omega), List.take_of_length_le (by rw [HNB.out]; omega)] at hv'
        have HV := Lib.hid hv'
        clear hv'
        by_cases e3 : c = 0
        · subst e3
          have HP := Lib.hid hown
          clear hown
          go_wp2_with fail
          go_ret
          have hlv := hl.out
          have hval : bval l = bval a + bval b := by have := HV.out; omega
          refine ⟨_, rfl, ⟨l, Big.of_own (by rw [hlv]; exact HP.out), ⟨hp.out, ?_⟩, hval⟩, HB.out⟩
          rcases hg.out with h | h
          · left; exact List.length_eq_zero_iff.1 (by omega)
          · right; rw [hlv, hval]; exact h
        · have c1 : c = 1 := by omega
          subst c1
          have hge : 32768 ^ i ≤ bval a + bval b := by have := HV.out; omega
          have hlt : i < 201 := by
            rcases Nat.lt_or_ge i 201 with h | h
            · exact h
            · exfalso
              have h1 := bval_lt CA.out.1
              have h2 := bval_lt CB.out.1
              have h3 : 32768 ^ a.length ≤ 32768 ^ 200 := Nat.pow_le_pow_right (by decide) (by rw [HNA.out]; exact la)
              have h4 : 32768 ^ b.length ≤ 32768 ^ 200 := Nat.pow_le_pow_right (by decide) (by rw [HNB.out]; exact lb)
              have h5 : 32768 ^ (200 + 1) ≤ 32768 ^ i := Nat.pow_le_pow_right (by decide) h
              rw [Nat.pow_succ] at h5
              omega
          have G3 := Lib.hid hge
          clear hge
          go_wp2_with (at_builtin; refine wpList_append_own _ rfl _ _ 96 rfl w.heap.size 3 i0 (.int .i64 0) 1 8 Tryz.underlying96 hi hz0 hz1 hz2 rfl (by decide) _ _ _ rfl (hown.alloc _) ⟨wr.heap.size, 0, none⟩ 1 1 [.int .i64 1] rfl rfl (cell_one_new _ _ _) (by intro u hu; simp at hu; subst hu; rfl) (by unfold maxLen; omega) (by omega) (by simp; omega) ?_; intro v' w1 hown' hgrow _)
          have hb' : Below w.heap.size w w1 := (HB.out.alloc HB.out.size _).grown hgrow (by have := HB.out.size; simp; omega) (fun k hk => (hown.lt k hk).1)
          have HO := HI.out 1 v' w1 (.map #[] 0) (by omega) (by omega) G3.out (by simpa [pv] using hown') hb'
          have HH := Lib.hid HO
          clear hown' hgrow hown HO hb'
          go_wp2_with fail
          go_roundw
          case rel => simpa using HH.out
          case measure => simp [intOf]; omega
end Go.Proofs.YthkhhjfldkebcaaGreatDoor
