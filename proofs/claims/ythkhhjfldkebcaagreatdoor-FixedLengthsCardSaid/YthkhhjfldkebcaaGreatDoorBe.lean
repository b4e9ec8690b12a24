/- Contract: minus. -/
import Derived.Test.YthkhhjfldkebcaaGreatDoorBd
namespace Go.Proofs.YthkhhjfldkebcaaGreatDoor
open Go.RowKit Go.Proofs Go.Shelf

/-- A digit of a difference: x is what is kept, r' what is borrowed. -/
theorem minus_rel {l : List Nat} {i r x r' da db S T U V : Nat} (hp : Parts l) (hl : l.length = i) (h : bval l + S = T + r * 32768 ^ i) (hS : U = S + db * 32768 ^ i) (hT : V = T + da * 32768 ^ i)
    (hx : x < 32768) (e : x + r + db = da + 32768 * r') :
    Parts (l ++ [x]) ∧ (l ++ [x]).length = i + 1 ∧ bval (l ++ [x]) + U = V + r' * 32768 ^ (i + 1) := by
  subst hl hS hT
  refine ⟨hp.snoc hx, by simp, ?_⟩
  rw [bval_snoc, Nat.pow_succ]
  generalize 32768 ^ l.length = P at *
  generalize bval l = b at *
  have e2 : (x + r + db) * P = (da + 32768 * r') * P := by rw [e]
  grind

set_option maxHeartbeats 4000000 in
theorem minus_parts (va vb : Value) (a b : List Nat) (w : World) (ha : Big w va a) (hb : Big w vb b) (pa : Parts a) (pb : Parts b) (la : a.length ≤ 1000) (lb : b.length ≤ a.length) (hle : bval b ≤ bval a) :
    Calls Tryz.prog 137 #[va, vb] w (BigOut w (bval a - bval b)) := by
  obtain ⟨A, capa, rfl, -, -, h3⟩ := ha
  obtain ⟨B, capb, rfl, -, -, h6⟩ := hb
  have H3 := Lib.hid h3
  have H6 := Lib.hid h6
  have CA := Lib.hid pa
  have CB := Lib.hid pb
  have HLE := Lib.hid hle
  obtain ⟨i0, hi, hz0, hz1, hz2⟩ := info_parts Tryz.info3
  obtain ⟨n, hn⟩ : ∃ n, a.length = n := ⟨_, rfl⟩
  obtain ⟨m, hm⟩ : ∃ m, b.length = m := ⟨_, rfl⟩
  have HNA := Lib.hid hn
  have HNB := Lib.hid hm
  rw [hn] at la lb ⊢
  rw [hm] at lb ⊢
  clear h3 h6 pa pb hn hm hle
  go_enter Tryz.func137, Tryz.ntmps137
  go_wp2_with fail
  go_loopw [5, 6, 7] (fun out rv iv wr => ∃ (i r : Nat) (l : List Nat), iv = .int .i64 i ∧ rv = .int .i64 r ∧ r ≤ 1 ∧ i ≤ n ∧ Hid (Parts l) ∧ Hid (l.length = i) ∧ Hid (bval l + bval (b.take i) = bval (a.take i) + r * 32768 ^ i) ∧
      wr.ownsRow w.heap.size 3 1 out i (l.map pv) ∧ Below w.heap.size w wr)
    (fun _ _ iv _ => n - (intOf iv).toNat)
  case atStart => exact ⟨0, 0, [], rfl, rfl, by omega, by omega, Parts.nil, rfl, by show _ = _; simp [bval], World.ownsRow_nil _ _ _ _, Below.refl _ _⟩
  case round =>
    obtain ⟨i, r, l, rfl, rfl, hr, hi1, hp, hl, hv, hown, hbl⟩ := hrel
    have HB := Lib.hid hbl
    have hs := hbl.size
    by_cases e1 : i < n
    · have ta := bval_take' a i
      have tb := bval_take' b i
      have HTA := Lib.hid ta
      have HTB := Lib.hid tb
      clear ta tb
      obtain ⟨g1, rfl, hcell⟩ := H3.out (by intro h0; have := HNA.out; rw [h0] at this; simp at this; omega)
      have cell1 := upc (hcell i (by rw [HNA.out]; exact e1)) hbl
      clear hcell
      have hB : i < m → ∃ g, B = some ⟨g, 0, none⟩ ∧ wr.cell? ⟨g, i, none⟩ = some (pv (b.getD i 0)) := fun h => by
        obtain ⟨g, hA, hcell⟩ := H6.out (by intro h0; have := HNB.out; rw [h0] at this; simp at this; omega)
        exact ⟨g, hA, upc (hcell i (by rw [HNB.out]; exact h)) hbl⟩
      have da1 := CA.out.get i
      have db1 := CB.out.get i
      have nb : ¬ i < m → b.getD i 0 = 0 := fun h => by rw [List.getD_eq_getElem?_getD, List.getElem?_eq_none (by rw [HNB.out]; omega)]; rfl
      obtain ⟨da, hda⟩ : ∃ d, a.getD i 0 = d := ⟨_, rfl⟩
      obtain ⟨db, hdb⟩ : ∃ d, b.getD i 0 = d := ⟨_, rfl⟩
      rw [hda] at cell1 da1
      rw [hdb] at hB nb db1
      have HDA := Lib.hid hda
      have HDB := Lib.hid hdb
      have HHB := Lib.hid hB
      have NB := Lib.hid nb
      clear hda hdb hB nb hbl
      have e1' : (i : Int) < (n : Int) := by omega
      have HI : Hid (∀ (x r' : Nat) (v' : Value) (w1 : World), x + r + db = da + 32768 * r' → x < 32768 → r' ≤ 1 → w1.ownsRow w.heap.size 3 1 v' (i + 1) (l.map pv ++ [pv x]) → Below w.heap.size w w1 →
          ∃ (i' c' : Nat) (l' : List Nat), Value.int .i64 (i + 1 : Nat) = .int .i64 i' ∧ Value.int .i64 r' = .int .i64 c' ∧ c' ≤ 1 ∧ i' ≤ n ∧ Hid (Parts l') ∧ Hid (l'.length = i') ∧ Hid (bval l' + bval (b.take i') = bval (a.take i') + c' * 32768 ^ i') ∧
        w1.ownsRow w.heap.size 3 1 v' i' (l'.map pv) ∧ Below w.heap.size w w1) := by
        intro x r' v' w1 he hx hr' ho hb1
        have R := minus_rel (x := x) (r' := r') (U := bval (b.take (i + 1))) (V := bval (a.take (i + 1))) hp.out hl.out hv.out (by rw [HTB.out, HDB.out]) (by rw [HTA.out, HDA.out]) hx he
        exact ⟨i + 1, r', l ++ [x], rfl, rfl, by omega, by omega, R.1, R.2.1, R.2.2, by simpa using ho, hb1⟩
      by_cases e2 : i < m
      · obtain ⟨g2, rfl, cell2⟩ := HHB.out e2
        have e2' : (i : Int) < (m : Int) := by omega
        by_cases e3 : da < r + db
        · have e3' : (da : Int) - (r : Int) - (db : Int) < 0 := by omega
          go_wp2_with (at_builtin; refine wpList_append_own _ rfl _ _ 96 rfl w.heap.size 3 i0 (.int .i64 0) 1 8 Tryz.underlying96 hi hz0 hz1 hz2 rfl (by decide) _ _ _ rfl (hown.alloc _) ⟨wr.heap.size, 0, none⟩ 1 1 [.int .i64 ((da : Int) - (r : Int) - (db : Int) + 32768)] rfl rfl (cell_one_new _ _ _) (by intro u hu; simp at hu; subst hu; rfl) (by unfold maxLen; omega) (by omega) (by simp; omega) ?_; intro v' w1 hown' hgrow _)
          have hb' : Below w.heap.size w w1 := (HB.out.alloc HB.out.size _).grown hgrow (by have := HB.out.size; simp; omega) (fun k hk => (hown.lt k hk).1)
          have ex : (.int .i64 ((da : Int) - (r : Int) - (db : Int) + 32768) : Value) = pv (da + 32768 - r - db) := congrArg (Value.int IntKind.i64) (by omega)
          rw [ex] at hown'
          have HO := HI.out (da + 32768 - r - db) 1 v' w1 (by omega) (by omega) (by omega) hown' hb'
          have HH := Lib.hid HO
          clear hown' hgrow hown HO cell1 cell2 hb' ex
          go_wp2_with fail
          go_roundw
          case rel => simpa using HH.out
          case measure => simp [intOf]; omega
        · have e3' : decide ((da : Int) - (r : Int) - (db : Int) < 0) = false := by simp; omega
          go_wp2_with (at_builtin; refine wpList_append_own _ rfl _ _ 96 rfl w.heap.size 3 i0 (.int .i64 0) 1 8 Tryz.underlying96 hi hz0 hz1 hz2 rfl (by decide) _ _ _ rfl (hown.alloc _) ⟨wr.heap.size, 0, none⟩ 1 1 [.int .i64 ((da : Int) - (r : Int) - (db : Int))] rfl rfl (cell_one_new _ _ _) (by intro u hu; simp at hu; subst hu; rfl) (by unfold maxLen; omega) (by omega) (by simp; omega) ?_; intro v' w1 hown' hgrow _)
          have hb' : Below w.heap.size w w1 := (HB.out.alloc HB.out.size _).grown hgrow (by have := HB.out.size; simp; omega) (fun k hk => (hown.lt k hk).1)
          have ex : (.int .i64 ((da : Int) - (r : Int) - (db : Int)) : Value) = pv (da - r - db) := congrArg (Value.int IntKind.i64) (by omega)
          rw [ex] at hown'
          have HO := HI.out (da - r - db) 0 v' w1 (by omega) (by omega) (by omega) hown' hb'
          have HH := Lib.hid HO
          clear hown' hgrow hown HO cell1 cell2 hb' ex
          go_wp2_with fail
          go_roundw
          case rel => simpa using HH.out
          case measure => simp [intOf]; omega
      · have e2' : decide ((i : Int) < (m : Int)) = false := by simp; omega
        have e2n : decide (i < m) = false := by simpa using e2
        obtain rfl := NB.out e2
        by_cases e3 : da < r
        · have e3' : (da : Int) - (r : Int) < 0 := by omega
          go_wp2_with (at_builtin; refine wpList_append_own _ rfl _ _ 96 rfl w.heap.size 3 i0 (.int .i64 0) 1 8 Tryz.underlying96 hi hz0 hz1 hz2 rfl (by decide) _ _ _ rfl (hown.alloc _) ⟨wr.heap.size, 0, none⟩ 1 1 [.int .i64 ((da : Int) - (r : Int) + 32768)] rfl rfl (cell_one_new _ _ _) (by intro u hu; simp at hu; subst hu; rfl) (by unfold maxLen; omega) (by omega) (by simp; omega) ?_; intro v' w1 hown' hgrow _)
          have hb' : Below w.heap.size w w1 := (HB.out.alloc HB.out.size _).grown hgrow (by have := HB.out.size; simp; omega) (fun k hk => (hown.lt k hk).1)
          have ex : (.int .i64 ((da : Int) - (r : Int) + 32768) : Value) = pv (da + 32768 - r) := congrArg (Value.int IntKind.i64) (by omega)
          rw [ex] at hown'
          have HO := HI.out (da + 32768 - r) 1 v' w1 (by omega) (by omega) (by omega) hown' hb'
          have HH := Lib.hid HO
          clear hown' hgrow hown HO cell1 hb' ex
          go_wp2_with fail
          go_roundw
          case rel => simpa using HH.out
          case measure => simp [intOf]; omega
        · have e3' : decide ((da : Int) - (r : Int) < 0) = false := by simp; omega
          go_wp2_with (at_builtin; refine wpList_append_own _ rfl _ _ 96 rfl w.heap.size 3 i0 (.int .i64 0) 1 8 Tryz.underlying96 hi hz0 hz1 hz2 rfl (by decide) _ _ _ rfl (hown.alloc _) ⟨wr.heap.size, 0, none⟩ 1 1 [.int .i64 ((da : Int) - (r : Int))] rfl rfl (cell_one_new _ _ _) (by intro u hu; simp at hu; subst hu; rfl) (by unfold maxLen; omega) (by omega) (by simp; omega) ?_; intro v' w1 hown' hgrow _)
          have hb' : Below w.heap.size w w1 := (HB.out.alloc HB.out.size _).grown hgrow (by have := HB.out.size; simp; omega) (fun k hk => (hown.lt k hk).1)
          have ex : (.int .i64 ((da : Int) - (r : Int)) : Value) = pv (da - r) := congrArg (Value.int IntKind.i64) (by omega)
          rw [ex] at hown'
          have HO := HI.out (da - r) 0 v' w1 (by omega) (by omega) (by omega) hown' hb'
          have HH := Lib.hid HO
          clear hown' hgrow hown HO cell1 hb' ex
          go_wp2_with fail
          go_roundw
          case rel => simpa using HH.out
          case measure => simp [intOf]; omega
    · obtain rfl : i = n := by omega
      have hlv := hl.out
      have hval : bval l = bval a - bval b := by
        have h := hv.out
        rw [List.take_of_length_le (by rw [HNB.out]; omega), List.take_of_length_le (by rw [HNA.out]; omega)] at h
        have hlt := bval_lt hp.out
        rw [hlv] at hlt
        have := HLE.out
        have hr0 : r = 0 := by
          rcases Nat.eq_zero_or_pos r with h0 | h0
          · exact h0
          · obtain rfl : r = 1 := by omega
            omega
        subst hr0
        omega
      have HV := Lib.hid hval
      have HT := Lib.hid (fun v w' (h : Big w' v l) => trim_any v l w' h hp.out (by rw [hlv]; omega))
      have HO := Lib.hid (Big.of_own (l := l) (by rw [hlv]; exact hown))
      obtain ⟨Ao, co, ho, -, -, -⟩ := HO.out
      subst ho
      clear hown hval hlv hbl e1
      go_wp2_with (go_at_call 139; refine (HT.out _ _ HO.out).mono ?_; rintro e w1 ⟨v, rfl, hN, hb1⟩)
      go_ret
      exact ⟨v, rfl, by rw [← HV.out]; exact hN, HB.out.trans (hb1.mono HB.out.size)⟩
end Go.Proofs.YthkhhjfldkebcaaGreatDoor
