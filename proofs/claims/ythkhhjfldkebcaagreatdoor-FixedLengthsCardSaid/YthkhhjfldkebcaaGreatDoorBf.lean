/- Contract: times. -/
import Derived.Test.YthkhhjfldkebcaaGreatDoorBe
namespace Go.Proofs.YthkhhjfldkebcaaGreatDoor
open Go.RowKit Go.Proofs Go.Shelf

/-- A block of the call's own that holds the parts l. -/
def RowN (w : World) (b : Nat) (l : List Nat) : Prop := w.rowIs b 3 l.length (fun j => pv (l.getD j 0))
theorem getD_set (l : List Nat) (i d j : Nat) (hi : i < l.length) : (l.set i d).getD j 0 = if j = i then d else l.getD j 0 := by
  simp only [List.getD_eq_getElem?_getD, List.getElem?_set]
  by_cases h : i = j
  · subst h; simp [hi]
  · rw [if_neg h, if_neg (fun e => h e.symm)]
theorem RowN.set {w : World} {b : Nat} {l : List Nat} (h : RowN w b l) {i : Nat} (hi : i < l.length) (d : Nat) : RowN (w.setCell ⟨b, i, none⟩ (pv d)) b (l.set i d) := by
  have := World.rowIs.set h i (pv d)
  unfold RowN
  rw [List.length_set]
  refine this.congr fun j _ => ?_
  rw [getD_set _ _ _ _ hi]
  by_cases e : j = i
  · rw [if_pos e, if_pos e]
  · rw [if_neg e, if_neg e]
theorem RowN.cell {w : World} {b : Nat} {l : List Nat} (h : RowN w b l) {i : Nat} (hi : i < l.length) : w.cell? ⟨b, i, none⟩ = some (pv (l.getD i 0)) := World.rowIs.cell h hi
theorem RowN.frozen {w : World} {b : Nat} {l : List Nat} (h : RowN w b l) (i : Nat) : w.frozen? ⟨b, i, none⟩ = false := World.rowIs.frozen h i
theorem RowN.drewN {w : World} {b : Nat} {l : List Nat} (h : RowN w b l) (n : Nat) : RowN (w.drewN n) b l := h
theorem RowN.up {w w' : World} {b : Nat} {l : List Nat} (h : RowN w b l) (hb : Below w.heap.size w w') : RowN w' b l := World.rowIs.of_block h (hb.block b (World.rowIs.lt h))
theorem RowN.made (w : World) (n : Nat) : RowN (w.alloc (.cells (madeCells #[.int .i64 0] n) 3)) w.heap.size (List.replicate n 0) := by
  unfold RowN
  rw [List.length_replicate]
  refine (World.rowIs_made w (.int .i64 0) n 3).congr fun j hj => ?_
  show _ = pv _
  rw [List.getD_eq_getElem?_getD, List.getElem?_replicate, if_pos hj]; rfl
theorem RowN.big {w : World} {b : Nat} {l : List Nat} (h : RowN w b l) {n : Nat} (hn : l.length = n) (hm : n ≤ maxLen) : Big w (.slice (some ⟨b, 0, none⟩) n n) l := by
  subst hn
  exact ⟨_, _, rfl, Nat.le_refl _, ⟨hm, fun h => by cases h⟩, fun _ => ⟨b, rfl, fun j hj => h.cell hj⟩⟩
theorem bval_replicate (n : Nat) : bval (List.replicate n 0) = 0 := by
  induction n with
  | zero => rfl
  | succ n ih => rw [List.replicate_succ]; simp [bval, ih]
theorem Parts.replicate (n : Nat) : Parts (List.replicate n 0) := fun d hd => by rw [List.eq_of_mem_replicate hd]; decide

/-- A round of the inner loop. -/
theorem times_inner {o : List Nat} {i k c x p da S L : Nat} {b : List Nat} (hp : Parts o) (hl : o.length = L) (hik : i + k < L) (hx : o.getD (i + k) 0 = x)
    (h : bval o + c * 32768 ^ (i + k) = S + da * 32768 ^ i * bval (b.take k)) (hpp : da * b.getD k 0 = p) :
    Parts (o.set (i + k) ((c + x + p) % 32768)) ∧ (o.set (i + k) ((c + x + p) % 32768)).length = L ∧
      bval (o.set (i + k) ((c + x + p) % 32768)) + (c + x + p) / 32768 * 32768 ^ (i + (k + 1)) = S + da * 32768 ^ i * bval (b.take (k + 1)) := by
  refine ⟨hp.set _ (Nat.mod_lt _ (by decide)), by rw [List.length_set]; exact hl, ?_⟩
  have hs := bval_set o (i + k) ((c + x + p) % 32768) (by omega)
  rw [hx] at hs
  rw [bval_take', ← hpp] at *
  have e := (Nat.mod_add_div (c + x + da * b.getD k 0) 32768).symm
  generalize (c + x + da * b.getD k 0) % 32768 = r at *
  generalize (c + x + da * b.getD k 0) / 32768 = q at *
  generalize bval (o.set (i + k) r) = y at *
  generalize bval o = z at *
  generalize b.getD k 0 = d at *
  generalize bval (b.take k) = t at *
  have e1 : 32768 ^ (i + (k + 1)) = 32768 ^ (i + k) * 32768 := by rw [← Nat.add_assoc, Nat.pow_succ]
  have e2 : 32768 ^ (i + k) = 32768 ^ i * 32768 ^ k := Nat.pow_add _ _ _
  rw [e1]
  have e3 : da * 32768 ^ i * (t + d * 32768 ^ k) = da * 32768 ^ i * t + da * d * 32768 ^ (i + k) := by rw [e2]; grind
  rw [e3]
  generalize 32768 ^ (i + k) = P at *
  generalize da * 32768 ^ i * t = T at *
  have e4 : (c + x + da * d) * P = (r + 32768 * q) * P := by rw [← e]
  generalize da * d = m at *
  grind

set_option maxHeartbeats 4000000 in
theorem times_parts (va vb : Value) (a b : List Nat) (w : World) (ha : Big w va a) (hb : Big w vb b) (pa : Parts a) (pb : Parts b) (la : a.length ≤ 200) (lb : b.length ≤ 200) :
    Calls Tryz.prog 102 #[va, vb] w (BigOut w (bval a * bval b)) := by
  obtain ⟨A, capa, rfl, -, -, h3⟩ := ha
  obtain ⟨B, capb, rfl, -, -, h6⟩ := hb
  have H3 := Lib.hid h3
  have H6 := Lib.hid h6
  have CA := Lib.hid pa
  have CB := Lib.hid pb
  obtain ⟨n, hn⟩ : ∃ n, a.length = n := ⟨_, rfl⟩
  obtain ⟨m, hm⟩ : ∃ m, b.length = m := ⟨_, rfl⟩
  have HNA := Lib.hid hn
  have HNB := Lib.hid hm
  rw [hn] at la ⊢
  rw [hm] at lb ⊢
  clear h3 h6 pa pb hn hm
  have hmk : ∀ W, (Instr.makeSlice 96 (.int .i64 ((n : Int) + (m : Int))) (.int .i64 ((n : Int) + (m : Int)))).run Tryz.prog W = .ok (.slice (some ⟨W.heap.size, 0, none⟩) (n + m) (n + m)) (W.alloc (.cells (madeCells #[.int .i64 0] (n + m)) 3)) := fun W => by
    have := run_make_row' (P := Tryz.prog) 96 3 (.int .i64 0) 8 Tryz.underlying96 Tryz.info3 rfl .i64 .i64 (n + m) (by omega) (by omega) W
    rwa [Int.natCast_add] at this
  obtain ⟨C0, hC0⟩ : ∃ C, madeCells #[.int .i64 0] (n + m) = C := ⟨_, rfl⟩
  have R0 : Hid (RowN (w.alloc (.cells C0 3)) w.heap.size (List.replicate (n + m) 0)) := by rw [← hC0]; exact RowN.made w (n + m)
  rw [hC0] at hmk
  clear hC0
  go_enter Tryz.func102, Tryz.ntmps102
  go_wp2_with fail
  clear hmk
  go_loopw [6] (fun iv wr => ∃ (i : Nat) (o : List Nat), iv = .int .i64 i ∧ i ≤ n ∧ Hid (RowN wr w.heap.size o) ∧ Hid (o.length = n + m) ∧ Hid (Parts o) ∧ Hid (bval o = bval (a.take i) * bval b) ∧ Hid (∀ j, i + m ≤ j → o.getD j 0 = 0) ∧ Below w.heap.size w wr)
    (fun iv _ => n - (intOf iv).toNat)
  case atStart => exact ⟨0, List.replicate (n + m) 0, rfl, by omega, R0.out, by show _ = _; simp, Parts.replicate _, by show _ = _; rw [bval_replicate]; simp [bval], fun j _ => by rw [List.getD_eq_getElem?_getD, List.getElem?_replicate]; split <;> rfl, (Below.refl _ _).alloc (Nat.le_refl _) _⟩
  case round =>
    obtain ⟨i, o, rfl, hi, hrow, hlen, hpo, hval, hz, hbl⟩ := hrel
    obtain ⟨wo, hwo⟩ : ∃ wo : World, wo = wr := ⟨_, rfl⟩
    subst hwo
    have HB := Lib.hid hbl
    by_cases e1 : i < n
    · have e1' : (i : Int) < (n : Int) := by omega
      obtain ⟨g1, rfl, hcell⟩ := H3.out (by intro h0; have := HNA.out; rw [h0] at this; simp at this; omega)
      have cell1 := hcell i (by rw [HNA.out]; exact e1)
      have da1 := CA.out.get i
      obtain ⟨da, hda⟩ : ∃ d, a.getD i 0 = d := ⟨_, rfl⟩
      rw [hda] at cell1 da1
      have HDA := Lib.hid hda
      have HC1 := Lib.hid cell1
      clear hcell hda cell1 hbl
      go_wp2_with fail
      go_loopw [7, 8] (fun cv kv wr => ∃ (k c : Nat) (o' : List Nat), kv = .int .i64 k ∧ cv = .int .i64 c ∧ k ≤ m ∧ c < 32768 ∧ Hid (RowN wr w.heap.size o') ∧ Hid (o'.length = n + m) ∧ Hid (Parts o') ∧ Hid (bval o' + c * 32768 ^ (i + k) = bval (a.take i) * bval b + da * 32768 ^ i * bval (b.take k)) ∧ Hid (∀ j, i + m ≤ j → o'.getD j 0 = 0) ∧ Below w.heap.size w wr)
        (fun _ kv _ => m - (intOf kv).toNat)
      case atStart => exact ⟨0, 0, o, rfl, rfl, by omega, by omega, hrow, hlen, hpo, by show _ = _; rw [hval.out]; simp [bval], hz, HB.out⟩
      case round =>
        obtain ⟨k, c, o', rfl, rfl, hk, hc, hrow', hlen', hpo', hval', hz', hbl'⟩ := hrel
        have HB' := Lib.hid hbl'
        have cell1 := upc HC1.out hbl'
        by_cases e2 : k < m
        · have e2' : (k : Int) < (m : Int) := by omega
          obtain ⟨g2, rfl, hcell⟩ := H6.out (by intro h0; have := HNB.out; rw [h0] at this; simp at this; omega)
          have cell2 := upc (hcell k (by rw [HNB.out]; exact e2)) hbl'
          have db1 := CB.out.get k
          have hx1 := hpo'.out.get (i + k)
          have cell3 := hrow'.out.cell (i := i + k) (by rw [hlen'.out]; omega)
          have fr3 := hrow'.out.frozen (i + k)
          obtain ⟨db, hdb⟩ : ∃ d, b.getD k 0 = d := ⟨_, rfl⟩
          obtain ⟨x, hx⟩ : ∃ x, o'.getD (i + k) 0 = x := ⟨_, rfl⟩
          obtain ⟨p, hp⟩ : ∃ p, da * db = p := ⟨_, rfl⟩
          rw [hdb] at cell2 db1
          rw [hx] at cell3 hx1
          have hpb : p ≤ 1073676289 := by rw [← hp]; exact Nat.mul_le_mul (show da ≤ 32767 by omega) (show db ≤ 32767 by omega)
          have hmul : (da : Int) * (db : Int) = (p : Int) := by rw [← hp, Int.natCast_mul]
          have T := times_inner (c := c) (x := x) (p := p) (da := da) (S := bval (a.take i) * bval b) (b := b) (i := i) (k := k) hpo'.out hlen'.out (by omega) hx hval'.out (by rw [hdb]; exact hp)
          have HT := Lib.hid T
          have HX := Lib.hid hx
          clear T hcell hdb hx hp hbl'
          have s1 : IntKind.i64.wrap ((i : Int) + (k : Int)) = (i : Int) + (k : Int) := IntWalk.i64_in _ (by omega)
          have s2 : (0 : Int) ≤ (i : Int) + (k : Int) := by omega
          have s3 : ((i : Int) + (k : Int)).toNat = i + k := by omega
          have s3' : (i : Int) + (k : Int) < (n : Int) + (m : Int) := by omega
          have s4 : IntKind.i64.wrap ((c : Int) + (x : Int)) = (c : Int) + (x : Int) := IntWalk.i64_in _ (by omega)
          have s5 : IntKind.i64.wrap (p : Int) = (p : Int) := IntWalk.i64_in _ (by omega)
          have s6 : IntKind.i64.wrap ((c : Int) + (x : Int) + (p : Int)) = (c : Int) + (x : Int) + (p : Int) := IntWalk.i64_in _ (by omega)
          go_wp2_with fail
          go_quiet (fail)
          go_wp2_with fail
          go_roundw
          case rel =>
            refine ⟨k + 1, (c + x + p) / 32768, o'.set (i + k) ((c + x + p) % 32768), by go_num, by go_num, by omega, by omega, ?_, HT.out.2.1, HT.out.1, HT.out.2.2, fun j hj => ?_, (below_drewN HB'.out _).setCell (p := ⟨w.heap.size, i + k, none⟩) (Nat.le_refl _) _⟩
            · have e : (.int .i64 (((c : Int) + (x : Int) + (p : Int)) % 32768) : Value) = pv ((c + x + p) % 32768) := congrArg (Value.int IntKind.i64) (by omega)
              show RowN _ _ _
              rw [e]
              exact (hrow'.out.drewN _).set (by rw [hlen'.out]; omega) _
            · rw [getD_set _ _ _ _ (by rw [hlen'.out]; omega), if_neg (by omega)]; exact hz'.out j hj
          case measure => simp [intOf]; omega
        · obtain rfl : k = m := by omega
          have hrow2 := hrow'.out.cell (i := i + k) (by rw [hlen'.out]; omega)
          have fr2 := hrow'.out.frozen (i + k)
          have hmk : (0 : Int) ≤ (i : Int) + (k : Int) := by omega
          have F1 : Hid (bval (o'.set (i + k) c) = bval (a.take (i + 1)) * bval b) := by
            show _ = _
            have h1 := bval_set o' (i + k) c (by rw [hlen'.out]; omega)
            have h2 := hval'.out
            rw [hz'.out (i + k) (Nat.le_refl _)] at h1
            have tb : b.take k = b := List.take_of_length_le (by rw [HNB.out]; exact Nat.le_refl _)
            rw [tb] at h2
            rw [bval_take', HDA.out, Nat.add_mul]
            omega
          clear hbl' cell1
          go_wp2_with fail
          go_roundw
          case rel =>
            refine ⟨i + 1, o'.set (i + k) c, by go_num, by omega, hrow'.out.set (by rw [hlen'.out]; omega) _, by show _ = _; rw [List.length_set]; exact hlen'.out, hpo'.out.set _ hc, F1.out, fun j hj => ?_, HB'.out.setCell (p := ⟨w.heap.size, i + k, none⟩) (Nat.le_refl _) _⟩
            rw [getD_set _ _ _ _ (by rw [hlen'.out]; omega), if_neg (by omega)]; exact hz'.out j (by omega)
          case measure => simp [intOf]; omega
    · obtain rfl : i = n := by omega
      have hv := hval.out
      rw [List.take_of_length_le (by rw [HNA.out]; omega)] at hv
      have HV := Lib.hid hv
      have HO := Lib.hid (hrow.out.big hlen.out (by unfold maxLen; omega))
      have HT := Lib.hid (fun v w' (h : Big w' v o) => trim_any v o w' h hpo.out (by rw [hlen.out]; omega))
      clear hv hbl
      go_wp2_with (go_at_call 139; refine (HT.out _ _ HO.out).mono ?_; rintro e w1 ⟨v, rfl, hN, hb1⟩)
      go_ret
      exact ⟨v, rfl, by rw [← HV.out]; exact hN, HB.out.trans (hb1.mono HB.out.size)⟩
end Go.Proofs.YthkhhjfldkebcaaGreatDoor
