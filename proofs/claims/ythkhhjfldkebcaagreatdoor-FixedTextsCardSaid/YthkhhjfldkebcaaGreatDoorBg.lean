import Derived.Test.YthkhhjfldkebcaaGreatDoorBd
/- Contract: minus. -/
namespace Go.Proofs.YthkhhjfldkebcaaGreatDoor
open Go.RowKit Go.Proofs Go.Shelf

/-- A digit of a difference: x is what is kept, r' what is borrowed. -/
theorem minus_rel {l : List Nat} {i r x r' da db S T U V : Nat} (hp : Parts l) (hl : l.length = i) (h : bval l + S = T + r * 32768 ^ i) (hS : U = S + db * 32768 ^ i) (hT : V = T + da * 32768 ^ i)
    (hx : x < 32768) (e : x + r + db = da + 32768 * r') :
    Parts (l ++ [x]) ∧ (l ++ [x]).length = i + 1 ∧ bval (l ++ [x]) + U = V + r' * 32768 ^ (i + 1) := by
  subst hl hS hT
  refine ⟨hp.snoc hx, by simp, ?_⟩
  rw [bval_snoc, Nat.pow_succ]
  generalize 32768 ^ l.length = P at *
  generalize bval l = b at *
  have e2 : (x + r + db) * P = (da + 32768 * r') * P := by rw [e]
  grind

set_option maxHeartbeats 4000000 in
theorem minus_parts (va vb : Value) (a b : List Nat) (w : World) (ha : Big w va a) (hb : Big w vb b) (pa : Parts a) (pb : Parts b) (la : a.length ≤ 1000) (lb : b.length ≤ a.length) (hle : bval b ≤ bval a) :
    Calls Tryz.prog 137 #[va, vb] w (BigOut w (bval a - bval b)) := by
  obtain ⟨A, capa, rfl, -, -, h3⟩ := ha
  obtain ⟨B, capb, rfl, -, -, h6⟩ := hb
  have H3 := Lib.hid h3
  have H6 := Lib.hid h6
  have CA := Lib.hid pa
  have CB := Lib.hid pb
  have HLE := Lib.hid hle
  obtain ⟨i0, hi, hz0, hz1, hz2⟩ := info_parts Tryz.info3
  obtain ⟨n, hn⟩ : ∃ n, a.length = n := ⟨_, rfl⟩
  obtain ⟨m, hm⟩ : ∃ m, b.length = m := ⟨_, rfl⟩
  have HNA := Lib.hid hn
  have HNB := Lib.hid hm
  rw [hn] at la lb ⊢
  rw [hm] at lb ⊢
  clear h3 h6 pa pb hn hm hle
  go_enter Tryz.func137, Tryz.ntmps137
  go_wp2_with fail
  go_loopw [5, 6, 7] (fun out rv iv wr => ∃ (i r : Nat) (l : List Nat), iv = .int .i64 i ∧ rv = .int .i64 r ∧ r ≤ 1 ∧ i ≤ n ∧ Hid (Parts l) ∧ Hid (l.length = i) ∧ Hid (bval l + bval (b.take i) = bval (a.take i) + r * 32768 ^ i) ∧
      wr.ownsRow w.heap.size 3 1 out i (l.map pv) ∧ Below w.heap.size w wr)
    (fun _ _ iv _ => n - (intOf iv).toNat)
  case atStart => exact ⟨0, 0, [], rfl, rfl, by omega, by omega, Parts.nil, rfl, by show _ = _; simp [bval], World.ownsRow_nil _ _ _ _, Below.refl _ _⟩
  case round =>
    obtain ⟨i, r, l, rfl, rfl, hr, hi1, hp, hl, hv, hown, hbl⟩ := hrel
    have HB := Lib.hid hbl
    have hs := hbl.size
    by_cases e1 : i < n
    · have ta := bval_take' a i
      have tb := bval_take' b i
      have HTA := Lib.hid ta
      have HTB := Lib.hid tb
      clear ta tb
      obtain ⟨g1, rfl, hcell⟩ := H3.out (by intro h0; have := HNA.out; rw [h0] at this; simp at this; omega)
      have cell1 := upc (hcell i (by rw [HNA.out]; exact e1)) hbl
      clear hcell
      have hB : i < m → ∃ g, B = some ⟨g, 0, none⟩ ∧ wr.cell? ⟨g, i, none⟩ = some (pv (b.getD i 0)) := fun h => by
        obtain ⟨g, hA, hcell⟩ := H6.out (by intro h0; have := HNB.out; rw [h0] at this; simp at this; omega)
        exact ⟨g, hA, upc (hcell i (by rw [HNB.out]; exact h)) hbl⟩
      have da1 := CA.out.get i
      have db1 := CB.out.get i
      have nb : ¬ i < m → b.getD i 0 = 0 := fun h => by rw [List.getD_eq_getElem?_getD, List.getElem?_eq_none (by rw [HNB.out]; omega)]; rfl
      obtain ⟨da, hda⟩ : ∃ d, a.getD i 0 = d := ⟨_, rfl⟩
      obtain ⟨db, hdb⟩ : ∃ d, b.getD i 0 = d := ⟨_, rfl⟩
      rw [hda] at cell1 da1
      rw [hdb] at hB nb db1
      have HDA := Lib.hid hda
      have HDB := Lib.hid hdb
      have HHB := Lib.hid hB
      have NB := Lib.hid nb
      clear hda hdb hB nb hbl
      have e1' : (i : Int) < (n : Int) := by omega
      have HI : Hid (∀ (x r' : Nat) (v' : Value) (w1 : World), x + r + db = da + 32768 * r' → x < 32768 → r' ≤ 1 → w1.ownsRow w.heap.size 3 1 v' (i + 1) (l.map pv ++ [pv x]) → Below w.heap.size w w1 →
          ∃ (i' c' : Nat) (l' : List Nat), Value.int .i64 (i + 1 : Nat) = .int .i64 i' ∧ Value.int .i64 r' = .int .i64 c' ∧ c' ≤ 1 ∧ i' ≤ n ∧ Hid (Parts l') ∧ Hid (l'.length = i') ∧ Hid (bval l' + bval (b.take i') = bval (a.take i') + c' * 32768 ^ i') ∧
        w1.ownsRow w.heap.size 3 1 v' i' (l'.map pv) ∧ Below w.heap.size w w1) := by
        intro x r' v' w1 he hx hr' ho hb1
        have R := minus_rel (x := x) (r' := r') (U := bval (b.take (i + 1))) (V := bval (a.take (i + 1))) hp.out hl.out hv.out (by rw [HTB.out, HDB.out]) (by rw [HTA.out, HDA.out]) hx he
        exact ⟨i + 1, r', l ++ [x], rfl, rfl, by omega, by omega, R.1, R.2.1, R.2.2, by simpa using ho, hb1⟩
      by_cases e2 : i < m
      · obtain ⟨g2, rfl, cell2⟩ := HHB.out e2
        have e2' : (i : Int) < (m : Int) := by omega
        by_cases e3 : da < r + db
        · have e3' : (da : Int) - (r : Int) - (db : Int) < 0 := by omega
          go_wp2_with (at_builtin; refine wpList_append_own _ rfl _ _ 96 rfl w.heap.size 3 i0 (.int .i64 0) 1 8 Tryz.underlying96 hi hz0 hz1 hz2 rfl (by decide) _ _ _ rfl (hown.alloc _) ⟨wr.heap.size, 0, none⟩ 1 1 [.int .i64 ((da : Int) - (r : Int) - (db : Int) + 32768)] rfl rfl (cell_one_new _ _ _) (by intro u hu; simp at hu; subst hu; rfl) (by unfold maxLen; omega) (by omega) (by simp; omega) ?_; intro v' w1 hown' hgrow _)
          have hb' : Below w.heap.size w w1 := (HB.out.alloc HB.out.size _).grown hgrow (by have := HB.out.size; simp; omega) (fun k hk => (hown.lt k hk).1)
          have ex : (.int .i64 ((da : Int) - (r : Int) - (db : Int) + 32768) : Value) = pv (da + 32768 - r - db) := congrArg (Value.int IntKind.i64) (by omega)
          rw [ex] at hown'
          have HO := HI.out (da + 32768 - r - db) 1 v' w1 (by omega) (by omega) (by omega) hown' hb'
          have HH := Lib.hid HO
          clear hown' hgrow hown HO cell1 cell2 hb' ex
          go_wp2_with fail
          go_roundw
          case rel => simpa using HH.out
          case measure => simp [intOf]; omega
        · have e3' : decide ((da : Int) - (r : Int) - (db : Int) < 0) = false := by simp; omega
          go_wp2_with (at_builtin; refine wpList_append_own _ rfl _ _ 96 rfl w.heap.size 3 i0 (.int .i64 0) 1 8 Tryz.underlying96 hi hz0 hz1 hz2 rfl (by decide) _ _ _ rfl (hown.alloc _) ⟨wr.heap.size, 0, none⟩ 1 1 [.int .i64 ((da : Int) - (r : Int) - (db : Int))] rfl rfl (cell_one_new _ _ _) (by intro u hu; simp at hu; subst hu; rfl) (by unfold maxLen; omega) (by omega) (by simp; omega) ?_; intro v' w1 hown' hgrow _)
          have hb' : Below w.heap.size w w1 := (HB.out.alloc HB.out.size _).grown hgrow (by have := HB.out.size; simp; omega) (fun k hk => (hown.lt k hk).1)
          have ex : (.int .i64 ((da : Int) - (r : Int) - (db : Int)) : Value) = pv (da - r - db) := congrArg (Value.int IntKind.i64) (by omega)
          rw [ex] at hown'
          have HO := HI.out (da - r - db) 0 v' w1 (by omega) (by omega) (by omega) hown' hb'
          have HH := Lib.hid HO
          clear hown' hgrow hown HO cell1 cell2 hb' ex
          go_wp2_with fail
          go_roundw
          case rel => simpa using HH.out
          case measure => simp [intOf]; omega
      · have e2' : decide ((i : Int) < (m : Int)) = false := by simp; omega
        have e2n : decide (i < m) = false := by simpa using e2
        obtain rfl := NB.out e2
        by_cases e3 : da < r
        · have e3' : (da : Int) - (r : Int) < 0 := by omega
          go_wp2_with (at_builtin; refine wpList_append_own _ rfl _ _ 96 rfl w.heap.size 3 i0 (.int .i64 0) 1 8 Tryz.underlying96 hi hz0 hz1 hz2 rfl (by decide) _ _ _ rfl (hown.alloc _) ⟨wr.heap.size, 0, none⟩ 1 1 [.int .i64 ((da : Int) - (r : Int) + 32768)] rfl rfl (cell_one_new _ _ _) (by intro u hu; simp at hu; subst hu; rfl) (by unfold maxLen; omega) (by omega) (by simp; omega) ?_; intro v' w1 hown' hgrow _)
          have hb' : Below w.heap.size w w1 := (HB.out.alloc HB.out.size _).grown hgrow (by have := HB.out.size; simp; omega) (fun k hk => (hown.lt k hk).1)
          have ex : (.int .i64 ((da : Int) - (r : Int) + 32768) : Value) = pv (da + 32768 - r) := congrArg (Value.int IntKind.i64) (by omega)
          rw [ex] at hown'
          have HO := HI.out (da + 32768 - r) 1 v' w1 (by omega) (by omega) (by omega) hown' hb'
          have HH := Lib.hid HO
          clear hown' hgrow hown HO cell1 hb' ex
          go_wp2_with fail
          go_roundw
          case rel => simpa using HH.out
          case measure => simp [intOf]; omega
        · have e3' : decide ((da : Int) - (r : Int) < 0) = false := by simp; omega
          go_wp2_with (at_builtin; refine wpList_append_own _ rfl _ _ 96 rfl w.heap.size 3 i0 (.int .i64 0) 1 8 Tryz.underlying96 hi hz0 hz1 hz2 rfl (by decide) _ _ _ rfl (hown.alloc _) ⟨wr.heap.size, 0, none⟩ 1 1 [.int .i64 ((da : Int) - (r : Int))] rfl rfl (cell_one_new _ _ _) (by intro u hu; simp at hu; subst hu; rfl) (by unfold maxLen; omega) (by omega) (by simp; omega) ?_; intro v' w1 hown' hgrow _)
          have hb' : Below w.heap.size w w1 := (HB.out.alloc HB.out.size _).grown hgrow (by have := HB.out.size; simp; omega) (fun k hk => (hown.lt k hk).1)
          have ex : (.int .i64 ((da : Int) - (r : Int)) : Value) = pv (da - r) := congrArg (Value.int IntKind.i64) (by omega)
          rw [ex] at hown'
          have HO := HI.out (da - r) 0 v' w1 (by omega) (by omega) (by omega) hown' hb'
          have HH := Lib.hid HO
          clear hown' hgrow hown HO cell1 hb' ex
          go_wp2_with fail
          go_roundw
          case rel => simpa using HH.out
          case measure => simp [intOf]; omega
    · obtain rfl : i = n := by omega
      have hlv := hl.out
      have hval : bval l = bval a - bval b := by
        have h := hv.out
        rw [List.take_of_length_le (by rw [HNB.out]; omega), List.take_of_length_le (by rw [HNA.out]; omega)] at h
        have hlt := bval_lt hp.out
        rw [hlv] at hlt
        have := HLE.out
        have hr0 : r = 0 := by
          rcases Nat.eq_zero_or_pos r with h0 | h0
          · exact h0
          · obtain rfl : r = 1 := by omega
            omega
        subst hr0
        omega
      have HV := Lib.hid hval
      have HT := Lib.hid (fun v w' (h : Big w' v l) => trim_any v l w' h hp.out (by rw [hlv]; omega))
      have HO := Lib.hid (Big.of_own (l := l) (by rw [hlv]; exact hown))
      obtain ⟨Ao, co, ho, -, -, -⟩ := HO.out
      subst ho
      clear hown hval hlv hbl e1
      go_wp2_with (go_at_call 139; refine (HT.out _ _ HO.out).mono ?_; rintro e w1 ⟨v, rfl, hN, hb1⟩)
      go_ret
      exact ⟨v, rfl, by rw [← HV.out]; exact hN, HB.out.trans (hb1.mono HB.out.size)⟩
end Go.Proofs.YthkhhjfldkebcaaGreatDoor

/- Contract: times. -/
namespace Go.Proofs.YthkhhjfldkebcaaGreatDoor
open Go.RowKit Go.Proofs Go.Shelf

/-- A block of the call's own that holds the parts l. -/
def RowN (w : World) (b : Nat) (l : List Nat) : Prop := w.rowIs b 3 l.length (fun j => pv (l.getD j 0))
theorem getD_set (l : List Nat) (i d j : Nat) (hi : i < l.length) : (l.set i d).getD j 0 = if j = i then d else l.getD j 0 := by
  simp only [List.getD_eq_getElem?_getD, List.getElem?_set]
  by_cases h : i = j
  · subst h; simp [hi]
  · rw [if_neg h, if_neg (fun e => h e.symm)]
theorem RowN.set {w : World} {b : Nat} {l : List Nat} (h : RowN w b l) {i : Nat} (hi : i < l.length) (d : Nat) : RowN (w.setCell ⟨b, i, none⟩ (pv d)) b (l.set i d) := by
  have := World.rowIs.set h i (pv d)
  unfold RowN
  rw [List.length_set]
  refine this.congr fun j _ => ?_
  rw [getD_set _ _ _ _ hi]
  by_cases e : j = i
  · rw [if_pos e, if_pos e]
  · rw [if_neg e, if_neg e]
theorem RowN.cell {w : World} {b : Nat} {l : List Nat} (h : RowN w b l) {i : Nat} (hi : i < l.length) : w.cell? ⟨b, i, none⟩ = some (pv (l.getD i 0)) := World.rowIs.cell h hi
theorem RowN.frozen {w : World} {b : Nat} {l : List Nat} (h : RowN w b l) (i : Nat) : w.frozen? ⟨b, i, none⟩ = false := World.rowIs.frozen h i
theorem RowN.drewN {w : World} {b : Nat} {l : List Nat} (h : RowN w b l) (n : Nat) : RowN (w.drewN n) b l := h
theorem RowN.up {w w' : World} {b : Nat} {l : List Nat} (h : RowN w b l) (hb : Below w.heap.size w w') : RowN w' b l := World.rowIs.of_block h (hb.block b (World.rowIs.lt h))
theorem RowN.made (w : World) (n : Nat) : RowN (w.alloc (.cells (madeCells #[.int .i64 0] n) 3)) w.heap.size (List.replicate n 0) := by
  unfold RowN
  rw [List.length_replicate]
  refine (World.rowIs_made w (.int .i64 0) n 3).congr fun j hj => ?_
  show _ = pv _
  rw [List.getD_eq_getElem?_getD, List.getElem?_replicate, if_pos hj]; rfl
theorem RowN.big {w : World} {b : Nat} {l : List Nat} (h : RowN w b l) {n : Nat} (hn : l.length = n) (hm : n ≤ maxLen) : Big w (.slice (some ⟨b, 0, none⟩) n n) l := by
  subst hn
  exact ⟨_, _, rfl, Nat.le_refl _, ⟨hm, fun h => by cases h⟩, fun _ => ⟨b, rfl, fun j hj => h.cell hj⟩⟩
theorem bval_replicate (n : Nat) : bval (List.replicate n 0) = 0 := by
  induction n with
  | zero => rfl
  | succ n ih => rw [List.replicate_succ]; simp [bval, ih]
theorem Parts.replicate (n : Nat) : Parts (List.replicate n 0) := fun d hd => by rw [List.eq_of_mem_replicate hd]; decide

/-- A round of the inner loop. -/
theorem times_inner {o : List Nat} {i k c x p da S L : Nat} {b : List Nat} (hp : Parts o) (hl : o.length = L) (hik : i + k < L) (hx : o.getD (i + k) 0 = x)
    (h : bval o + c * 32768 ^ (i + k) = S + da * 32768 ^ i * bval (b.take k)) (hpp : da * b.getD k 0 = p) :
    Parts (o.set (i + k) ((c + x + p) % 32768)) ∧ (o.set (i + k) ((c + x + p) % 32768)).length = L ∧
      bval (o.set (i + k) ((c + x + p) % 32768)) + (c + x + p) / 32768 * 32768 ^ (i + (k + 1)) = S + da * 32768 ^ i * bval (b.take (k + 1)) := by
  refine ⟨hp.set _ (Nat.mod_lt _ (by decide)), by rw [List.length_set]; exact hl, ?_⟩
  have hs := bval_set o (i + k) ((c + x + p) % 32768) (by omega)
  rw [hx] at hs
  rw [bval_take', ← hpp] at *
  have e := (Nat.mod_add_div (c + x + da * b.getD k 0) 32768).symm
  generalize (c + x + da * b.getD k 0) % 32768 = r at *
  generalize (c + x + da * b.getD k 0) / 32768 = q at *
  generalize bval (o.set (i + k) r) = y at *
  generalize bval o = z at *
  generalize b.getD k 0 = d at *
  generalize bval (b.take k) = t at *
  have e1 : 32768 ^ (i + (k + 1)) = 32768 ^ (i + k) * 32768 := by rw [← Nat.add_assoc, Nat.pow_succ]
  have e2 : 32768 ^ (i + k) = 32768 ^ i * 32768 ^ k := Nat.pow_add _ _ _
  rw [e1]
  have e3 : da * 32768 ^ i * (t + d * 32768 ^ k) = da * 32768 ^ i * t + da * d * 32768 ^ (i + k) := by rw [e2]; grind
  rw [e3]
  generalize 32768 ^ (i + k) = P at *
  generalize da * 32768 ^ i * t = T at *
  have e4 : (c + x + da * d) * P = (r + 32768 * q) * P := by rw [← e]
  generalize da * d = m at *
  grind

set_option maxHeartbeats 4000000 in
theorem times_parts (va vb : Value) (a b : List Nat) (w : World) (ha : Big w va a) (hb : Big w vb b) (pa : Parts a) (pb : Parts b) (la : a.length ≤ 200) (lb : b.length ≤ 200) :
    Calls Tryz.prog 102 #[va, vb] w (BigOut w (bval a * bval b)) := by
  obtain ⟨A, capa, rfl, -, -, h3⟩ := ha
  obtain ⟨B, capb, rfl, -, -, h6⟩ := hb
  have H3 := Lib.hid h3
  have H6 := Lib.hid h6
  have CA := Lib.hid pa
  have CB := Lib.hid pb
  obtain ⟨n, hn⟩ : ∃ n, a.length = n := ⟨_, rfl⟩
  obtain ⟨m, hm⟩ : ∃ m, b.length = m := ⟨_, rfl⟩
  have HNA := Lib.hid hn
  have HNB := Lib.hid hm
  rw [hn] at la ⊢
  rw [hm] at lb ⊢
  clear h3 h6 pa pb hn hm
  have hmk : ∀ W, (Instr.makeSlice 96 (.int .i64 ((n : Int) + (m : Int))) (.int .i64 ((n : Int) + (m : Int)))).run Tryz.prog W = .ok (.slice (some ⟨W.heap.size, 0, none⟩) (n + m) (n + m)) (W.alloc (.cells (madeCells #[.int .i64 0] (n + m)) 3)) := fun W => by
    have := run_make_row' (P := Tryz.prog) 96 3 (.int .i64 0) 8 Tryz.underlying96 Tryz.info3 rfl .i64 .i64 (n + m) (by omega) (by omega) W
    rwa [Int.natCast_add] at this
  obtain ⟨C0, hC0⟩ : ∃ C, madeCells #[.int .i64 0] (n + m) = C := ⟨_, rfl⟩
  have R0 : Hid (RowN (w.alloc (.cells C0 3)) w.heap.size (List.replicate (n + m) 0)) := by rw [← hC0]; exact RowN.made w (n + m)
  rw [hC0] at hmk
  clear hC0
  go_enter Tryz.func102, Tryz.ntmps102
  go_wp2_with fail
  clear hmk
  go_loopw [6] (fun iv wr => ∃ (i : Nat) (o : List Nat), iv = .int .i64 i ∧ i ≤ n ∧ Hid (RowN wr w.heap.size o) ∧ Hid (o.length = n + m) ∧ Hid (Parts o) ∧ Hid (bval o = bval (a.take i) * bval b) ∧ Hid (∀ j, i + m ≤ j → o.getD j 0 = 0) ∧ Below w.heap.size w wr)
    (fun iv _ => n - (intOf iv).toNat)
  case atStart => exact ⟨0, List.replicate (n + m) 0, rfl, by omega, R0.out, by show _ = _; simp, Parts.replicate _, by show _ = _; rw [bval_replicate]; simp [bval], fun j _ => by rw [List.getD_eq_getElem?_getD, List.getElem?_replicate]; split <;> rfl, (Below.refl _ _).alloc (Nat.le_refl _) _⟩
  case round =>
    obtain ⟨i, o, rfl, hi, hrow, hlen, hpo, hval, hz, hbl⟩ := hrel
    obtain ⟨wo, hwo⟩ : ∃ wo : World, wo = wr := ⟨_, rfl⟩
    subst hwo
    have HB := Lib.hid hbl
    by_cases e1 : i < n
    · have e1' : (i : Int) < (n : Int) := by omega
      obtain ⟨g1, rfl, hcell⟩ := H3.out (by intro h0; have := HNA.out; rw [h0] at this; simp at this; omega)
      have cell1 := hcell i (by rw [HNA.out]; exact e1)
      have da1 := CA.out.get i
      obtain ⟨da, hda⟩ : ∃ d, a.getD i 0 = d := ⟨_, rfl⟩
      rw [hda] at cell1 da1
      have HDA := Lib.hid hda
      have HC1 := Lib.hid cell1
      clear hcell hda cell1 hbl
      go_wp2_with fail
      go_loopw [7, 8] (fun cv kv wr => ∃ (k c : Nat) (o' : List Nat), kv = .int .i64 k ∧ cv = .int .i64 c ∧ k ≤ m ∧ c < 32768 ∧ Hid (RowN wr w.heap.size o') ∧ Hid (o'.length = n + m) ∧ Hid (Parts o') ∧ Hid (bval o' + c * 32768 ^ (i + k) = bval (a.take i) * bval b + da * 32768 ^ i * bval (b.take k)) ∧ Hid (∀ j, i + m ≤ j → o'.getD j 0 = 0) ∧ Below w.heap.size w wr)
        (fun _ kv _ => m - (intOf kv).toNat)
      case atStart => exact ⟨0, 0, o, rfl, rfl, by omega, by omega, hrow, hlen, hpo, by show _ = _; rw [hval.out]; simp [bval], hz, HB.out⟩
      case round =>
        obtain ⟨k, c, o', rfl, rfl, hk, hc, hrow', hlen', hpo', hval', hz', hbl'⟩ := hrel
        have HB' := Lib.hid hbl'
        have cell1 := upc HC1.out hbl'
        by_cases e2 : k < m
        · have e2' : (k : Int) < (m : Int) := by omega
          obtain ⟨g2, rfl, hcell⟩ := H6.out (by intro h0; have := HNB.out; rw [h0] at this; simp at this; omega)
          have cell2 := upc (hcell k (by rw [HNB.out]; exact e2)) hbl'
          have db1 := CB.out.get k
          have hx1 := hpo'.out.get (i + k)
          have cell3 := hrow'.out.cell (i := i + k) (by rw [hlen'.out]; omega)
          have fr3 := hrow'.out.frozen (i + k)
          obtain ⟨db, hdb⟩ : ∃ d, b.getD k 0 = d := ⟨_, rfl⟩
          obtain ⟨x, hx⟩ : ∃ x, o'.getD (i + k) 0 = x := ⟨_, rfl⟩
          obtain ⟨p, hp⟩ : ∃ p, da * db = p := ⟨_, rfl⟩
          rw [hdb] at cell2 db1
          rw [hx] at cell3 hx1
          have hpb : p ≤ 1073676289 := by rw [← hp]; exact Nat.mul_le_mul (show da ≤ 32767 by omega) (show db ≤ 32767 by omega)
          have hmul : (da : Int) * (db : Int) = (p : Int) := by rw [← hp, Int.natCast_mul]
          have T := times_inner (c := c) (x := x) (p := p) (da := da) (S := bval (a.take i) * bval b) (b := b) (i := i) (k := k) hpo'.out hlen'.out (by omega) hx hval'.out (by rw [hdb]; exact hp)
          have HT := Lib.hid T
          have HX := Lib.hid hx
          clear T hcell hdb hx hp hbl'
          have s1 : IntKind.i64.wrap ((i : Int) + (k : Int)) = (i : Int) + (k : Int) := IntWalk.i64_in _ (by omega)
          have s2 : (0 : Int) ≤ (i : Int) + (k : Int) := by omega
          have s3 : ((i : Int) + (k : Int)).toNat = i + k := by omega
          have s3' : (i : Int) + (k : Int) < (n : Int) + (m : Int) := by omega
          have s4 : IntKind.i64.wrap ((c : Int) + (x : Int)) = (c : Int) + (x : Int) := IntWalk.i64_in _ (by omega)
          have s5 : IntKind.i64.wrap (p : Int) = (p : Int) := IntWalk.i64_in _ (by omega)
          have s6 : IntKind.i64.wrap ((c : Int) + (x : Int) + (p : Int)) = (c : Int) + (x : Int) + (p : Int) := IntWalk.i64_in _ (by omega)
          go_wp2_with fail
          go_quiet (fail)
          go_wp2_with fail
          go_roundw
          case rel =>
            refine ⟨k + 1, (c + x + p) / 32768, o'.set (i + k) ((c + x + p) % 32768), by go_num, by go_num, by omega, by omega, ?_, HT.out.2.1, HT.out.1, HT.out.2.2, fun j hj => ?_, (below_drewN HB'.out _).setCell (p := ⟨w.heap.size, i + k, none⟩) (Nat.le_refl _) _⟩
            · have e : (.int .i64 (((c : Int) + (x : Int) + (p : Int)) % 32768) : Value) = pv ((c + x + p) % 32768) := congrArg (Value.int IntKind.i64) (by omega)
              show RowN _ _ _
              rw [e]
              exact (hrow'.out.drewN _).set (by rw [hlen'.out]; omega) _
            · rw [getD_set _ _ _ _ (by rw [hlen'.out]; omega), if_neg (by omega)]; exact hz'.out j hj
          case measure => simp [intOf]; omega
        · obtain rfl : k = m := by omega
          have hrow2 := hrow'.out.cell (i := i + k) (by rw [hlen'.out]; omega)
          have fr2 := hrow'.out.frozen (i + k)
          have hmk : (0 : Int) ≤ (i : Int) + (k : Int) := by omega
          have F1 : Hid (bval (o'.set (i + k) c) = bval (a.take (i + 1)) * bval b) := by
            show _ = _
            have h1 := bval_set o' (i + k) c (by rw [hlen'.out]; omega)
            have h2 := hval'.out
            rw [hz'.out (i + k) (Nat.le_refl _)] at h1
            have tb : b.take k = b := List.take_of_length_le (by rw [HNB.out]; exact Nat.le_refl _)
            rw [tb] at h2
            rw [bval_take', HDA.out, Nat.add_mul]
            omega
          clear hbl' cell1
          go_wp2_with fail
          go_roundw
          case rel =>
            refine ⟨i + 1, o'.set (i + k) c, by go_num, by omega, hrow'.out.set (by rw [hlen'.out]; omega) _, by show _ = _; rw [List.length_set]; exact hlen'.out, hpo'.out.set _ hc, F1.out, fun j hj => ?_, HB'.out.setCell (p := ⟨w.heap.size, i + k, none⟩) (Nat.le_refl _) _⟩
            rw [getD_set _ _ _ _ (by rw [hlen'.out]; omega), if_neg (by omega)]; exact hz'.out j (by omega)
          case measure => simp [intOf]; omega
    · obtain rfl : i = n := by omega
      have hv := hval.out
      rw [List.take_of_length_le (by rw [HNA.out]; omega)] at hv
      have HV := Lib.hid hv
      have HO := Lib.hid (hrow.out.big hlen.out (by unfold maxLen; omega))
      have HT := Lib.hid (fun v w' (h : Big w' v o) => trim_any v o w' h hpo.out (by rw [hlen.out]; omega))
      clear hv hbl
      go_wp2_with (go_at_call 139; refine (HT.out _ _ HO.out).mono ?_; rintro e w1 ⟨v, rfl, hN, hb1⟩)
      go_ret
      exact ⟨v, rfl, by rw [← HV.out]; exact hN, HB.out.trans (hb1.mono HB.out.size)⟩
end Go.Proofs.YthkhhjfldkebcaaGreatDoor

/- The contracts of the document's numbers, by the numbers; up. -/
namespace Go.Proofs.YthkhhjfldkebcaaGreatDoor
open Go.RowKit Go.Proofs Go.Shelf

/-- Numbers that are looked at: at most 16 parts. -/
def Lim (N : Nat) : Prop := N < 32768 ^ 16
theorem Lim.le {N M : Nat} (h : Lim N) (hm : M ≤ N) : Lim M := Nat.lt_of_le_of_lt hm h
theorem lim_of {N k : Nat} (h : N < 2 ^ k) (hk : k ≤ 240) : Lim N := by
  have e : (32768 : Nat) ^ 16 = 2 ^ 240 := by rw [show (32768 : Nat) = 2 ^ 15 from rfl, ← Nat.pow_mul]
  unfold Lim
  rw [e]
  exact Nat.lt_of_lt_of_le h (Nat.pow_le_pow_right (by decide) hk)
theorem Can.lim {l : List Nat} (h : Can l) (hl : Lim (bval l)) : l.length ≤ 16 := h.len_le hl

theorem BigOut.mk {w w' : World} {N : Nat} {v : Value} (h : BigN w' v N) (hb : Below w.heap.size w w') : BigOut w N (.returned v) w' := ⟨v, rfl, h, hb⟩
theorem plus_N (va vb : Value) (A B : Nat) (w : World) (ha : BigN w va A) (hb : BigN w vb B) (la : Lim A) (lb : Lim B) : Calls Tryz.prog 110 #[va, vb] w (BigOut w (A + B)) := by
  obtain ⟨a, h1, h2, rfl⟩ := ha
  obtain ⟨b, h3, h4, rfl⟩ := hb
  have x := h2.lim la; have y := h4.lim lb
  exact plus_parts va vb a b w h1 h3 h2 h4 (by omega) (by omega)
theorem minus_N (va vb : Value) (A B : Nat) (w : World) (ha : BigN w va A) (hb : BigN w vb B) (la : Lim A) (hle : B ≤ A) : Calls Tryz.prog 137 #[va, vb] w (BigOut w (A - B)) := by
  obtain ⟨a, h1, h2, rfl⟩ := ha
  obtain ⟨b, h3, h4, rfl⟩ := hb
  have x := h2.lim la
  refine minus_parts va vb a b w h1 h3 h2.1 h4.1 (by omega) ?_ hle
  rcases Nat.lt_or_ge a.length b.length with h | h
  · have := Can.len_lt h2 h4 h; omega
  · exact h
theorem times_N (va vb : Value) (A B : Nat) (w : World) (ha : BigN w va A) (hb : BigN w vb B) (la : Lim A) (lb : Lim B) : Calls Tryz.prog 102 #[va, vb] w (BigOut w (A * B)) := by
  obtain ⟨a, h1, h2, rfl⟩ := ha
  obtain ⟨b, h3, h4, rfl⟩ := hb
  have x := h2.lim la; have y := h4.lim lb
  exact times_parts va vb a b w h1 h3 h2.1 h4.1 (by omega) (by omega)
theorem order_N (va vb : Value) (A B : Nat) (w : World) (ha : BigN w va A) (hb : BigN w vb B) (la : Lim A) (lb : Lim B) : Calls Tryz.prog 96 #[va, vb] w fun e w' => e = .returned (.int .i64 (cmpI A B)) ∧ Below w.heap.size w w' := by
  obtain ⟨a, h1, h2, rfl⟩ := ha
  obtain ⟨b, h3, h4, rfl⟩ := hb
  have x := h2.lim la; have y := h4.lim lb
  exact order_any va vb a b w h1 h3 h2 h4 (by omega) (by omega)
theorem number_N (v : Value) (N : Nat) (w : World) (h : BigN w v N) (hl : Lim N) :
    Calls Tryz.prog 130 #[v] w fun e w' => e = .returned (.tuple #[.int .i64 (if N < 1152921504606846976 then (N : Int) else 0), .bool (decide (N < 1152921504606846976))]) ∧ w = w' := by
  obtain ⟨l, h1, h2, rfl⟩ := h
  have x := h2.lim hl
  have e4 : (32768 : Nat) ^ 4 = 1152921504606846976 := by decide
  have hiff : 4 < l.length ↔ ¬ bval l < 1152921504606846976 := by
    constructor
    · intro h h'
      rw [← e4] at h'
      have := h2.len_le h'; omega
    · intro h
      rcases Nat.lt_or_ge 4 l.length with h' | h'
      · exact h'
      · exfalso
        have a := bval_lt h2.1
        have b : 32768 ^ l.length ≤ 32768 ^ 4 := Nat.pow_le_pow_right (by decide) h'
        omega
  refine (number_any v l w h1 h2.1 (by omega)).mono ?_
  rintro e w' ⟨rfl, rfl⟩
  refine ⟨?_, rfl⟩
  by_cases h : bval l < 1152921504606846976
  · rw [if_neg (fun h' => hiff.1 h' h), if_pos h, decide_eq_true h, decide_eq_true (by have := fun h' => hiff.1 h' h; omega)]
  · have := hiff.2 h
    rw [if_pos this, if_neg h, decide_eq_false h, decide_eq_false (by omega)]

set_option maxHeartbeats 1000000 in
theorem up_N (va : Value) (A k : Nat) (w : World) (ha : BigN w va A) (la : Lim A) (hk : k = 2 ∨ k = 16 ∨ k = 32) : Calls Tryz.prog 111 #[va, .int .i64 k] w (BigOut w (A * 2 ^ k)) := by
  have HA := Lib.hid ha
  have LA := Lib.hid la
  obtain ⟨l, ⟨X, cap, rfl, -⟩, -⟩ := ha
  clear la
  rcases hk with rfl | rfl | rfl
  · go_enter Tryz.func111, Tryz.ntmps111
    go_wp2_with (first
      | (go_at_call 72; refine (of_any 4 _ (by decide) (by decide)).mono ?_; rintro e w1 ⟨v, rfl, hN, hb⟩; have HN := Lib.hid hN; obtain ⟨l1, ⟨X1, cap1, rfl, -⟩, -⟩ := hN)
      | (go_at_call 102; refine (times_N _ _ A 4 _ (HA.out.up hb) HN.out LA.out (lim_of (k := 3) (by decide) (by decide))).mono ?_; rintro e w2 ⟨v2, rfl, hN2, hb2⟩))
    go_ret
    exact ⟨_, rfl, hN2, hb.trans (hb2.mono hb.size)⟩
  · go_enter Tryz.func111, Tryz.ntmps111
    go_wp2_with (first
      | (go_at_call 72; refine (of_any 65536 _ (by decide) (by decide)).mono ?_; rintro e w1 ⟨v, rfl, hN, hb⟩; have HN := Lib.hid hN; obtain ⟨l1, ⟨X1, cap1, rfl, -⟩, -⟩ := hN)
      | (go_at_call 102; refine (times_N _ _ A 65536 _ (HA.out.up hb) HN.out LA.out (lim_of (k := 17) (by decide) (by decide))).mono ?_; rintro e w2 ⟨v2, rfl, hN2, hb2⟩))
    go_ret
    exact ⟨_, rfl, hN2, hb.trans (hb2.mono hb.size)⟩
  · go_enter Tryz.func111, Tryz.ntmps111
    go_wp2_with (first
      | (go_at_call 72; refine (of_any 4294967296 _ (by decide) (by decide)).mono ?_; rintro e w1 ⟨v, rfl, hN, hb⟩; have HN := Lib.hid hN; obtain ⟨l1, ⟨X1, cap1, rfl, -⟩, -⟩ := hN)
      | (go_at_call 102; refine (times_N _ _ A 4294967296 _ (HA.out.up hb) HN.out LA.out (lim_of (k := 33) (by decide) (by decide))).mono ?_; rintro e w2 ⟨v2, rfl, hN2, hb2⟩))
    go_ret
    exact ⟨_, rfl, hN2, hb.trans (hb2.mono hb.size)⟩
end Go.Proofs.YthkhhjfldkebcaaGreatDoor
