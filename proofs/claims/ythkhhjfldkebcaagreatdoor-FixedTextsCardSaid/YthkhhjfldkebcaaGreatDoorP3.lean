/- The contract of part. -/
import Derived.Test.YthkhhjfldkebcaaGreatDoorP2
import Derived.Lib.ConvBytes
import Derived.Laws.IdiomStrings
namespace Go.Proofs.YthkhhjfldkebcaaGreatDoor
open Go.RowKit Go.Proofs Go.Shelf

/-- The digits of a text. -/
def digs (l : List UInt8) : List Nat := l.map fun b => b.toNat - 48
/-- A row of digits in memory. -/
def Row (w : World) (b k : Nat) (f : Nat → Nat) : Prop := ∀ i, i < k → w.cell? ⟨b, i, none⟩ = some (.int .u8 (48 + (f i : Nat))) ∧ w.frozen? ⟨b, i, none⟩ = false

theorem frozen_bytes (w : World) (t : ByteArray) (i : Nat) (hi : i < t.size) : (Lib.bytesWorld w 5 t).frozen? ⟨w.heap.size, i, none⟩ = false := by
  have hs : t.size ≤ (Lib.bytesCells w 5 t).size := by unfold Lib.bytesCells; rw [Array.size_append, Array.size_map]; exact Nat.le_add_right _ _
  simp only [World.frozen?, Lib.bytesWorld_at_new]
  simp; omega
theorem digs_getD (l : List UInt8) (i : Nat) (hi : i < l.length) (hd : ∀ b ∈ l, isDig b = true) : some (Value.int .u8 ((l.getD i 0).toNat : Int)) = some (.int .u8 (48 + ((digs l).getD i 0 : Nat))) := by
  have hb := hd l[i] (List.getElem_mem _)
  simp only [isDig, decide_eq_true_eq] at hb
  simp only [digs, List.getD_eq_getElem?_getD, List.getElem?_map, List.getElem?_eq_getElem hi, Option.map_some, Option.getD_some]
  congr 2; omega
theorem Row.set {w : World} {b k j : Nat} {f g : Nat → Nat} {v : Int} (h : Row w b k f) (hj : j < k) (hv : v = 48 + (g j : Nat)) (hg : ∀ i, i < k → i ≠ j → g i = f i) : Row (w.setCell ⟨b, j, none⟩ (.int .u8 v)) b k g := by
  intro i hi
  refine ⟨?_, by rw [World.frozen?_setCell]; exact (h i hi).2⟩
  by_cases hij : i = j
  · subst hij
    rw [World.cell?_setCell_same _ _ _ (h i hi).1, hv]
  · rw [World.cell?_setCell_other _ _ _ _ (by first | (simp; done) | (simp; omega)), hg i hi hij]; exact (h i hi).1
theorem Row.congr {w : World} {b k : Nat} {f g : Nat → Nat} (h : Row w b k f) (hg : ∀ i, i < k → g i = f i) : Row w b k g := fun i hi => by rw [hg i hi]; exact h i hi
theorem n_bound {N T V k d : Nat} (hT : T ≤ 17) (hV : V < 10 ^ k) (h : N * 10 ^ k + d = V * 2 ^ T) : N ≤ 131071 := by
  have h1 : (2 : Nat) ^ T ≤ 131072 := by
    have : (2 : Nat) ^ T ≤ 2 ^ 17 := Nat.pow_le_pow_right (by omega) hT
    simpa using this
  have h2 : V * 2 ^ T ≤ V * 131072 := Nat.mul_le_mul_left _ h1
  rcases Nat.lt_or_ge N 131072 with h3 | h3
  · omega
  · have := Nat.mul_le_mul_right (10 ^ k) h3
    omega
theorem and_one (N : Nat) (h : N ≤ 18446744073709551615) : bits .and .u64 (N : Int) 1 = ((N % 2 : Nat) : Int) := by
  have := bits_and_u64_nat N 1 (by omega) (by omega)
  rw [show ((1 : Nat) : Int) = 1 from rfl] at this
  rw [this, show (1 : Nat) = 2 ^ 1 - 1 from rfl, Nat.and_two_pow_sub_one_eq_mod]
theorem trim_zero (es : List Nat) (h : ∀ d ∈ es, d < 10) : (Lib.trimS (es.map fun d => UInt8.ofNat (48 + d)) [48]).isEmpty = decide (dval es = 0) := by
  rw [trimS_isEmpty, Bool.eq_iff_iff, decide_eq_true_eq, dval_zero, List.all_eq_true]
  simp only [List.mem_map, forall_exists_index, and_imp, forall_apply_eq_imp_iff₂, Lib.contains_one]
  constructor
  · intro hx d hd
    have h1 := hx d hd
    have h2 := h d hd
    simp only [beq_iff_eq] at h1
    have h3 := congrArg UInt8.toNat h1
    simp only [UInt8.toNat_ofNat'] at h3
    have h4 : (48 : UInt8).toNat = 48 := rfl
    omega
  · intro hx d hd
    rw [hx d hd]; rfl
set_option maxHeartbeats 2000000 in
theorem part_any (s t : ByteArray) (w : World) (hs : s.size ≤ 1000) (ht : t = ⟨(Lib.trimRightS s.data.toList [48]).toArray⟩) (hts : t.size ≤ 1000) (hd : ∀ b ∈ t.data.toList, isDig b = true) :
    Calls Tryz.prog 108 #[.string s] w fun e w' => e = .returned (.tuple #[.int .u64 ((dval (digs t.data.toList) * 65536 / 10 ^ t.size : Nat) : Int), .int .i64 ((leftN (dval (digs t.data.toList)) (10 ^ t.size) : Nat) : Int)]) ∧ Below w.heap.size w w' := by
  have hcv : ∀ s w, (convert 9 132 (.string s)).run Tryz.prog w = .ok (.slice (some ⟨w.heap.size, 0, none⟩) s.size (grownCap w s.size 0 5)) (Lib.bytesWorld w 5 s) := fun s w => Lib.run_convert_string_bytes w 9 132 5 s Tryz.underlying9 Tryz.underlying132 Tryz.underlying5
  have HT : Hid (∀ w, Calls Tryz.prog 145 #[.string s, .string ⟨#[48]⟩] w fun e w' => e = .returned (.string t) ∧ Below w.heap.size w w') := by
    intro w
    refine (Tryz.strings_TrimRight s ⟨#[48]⟩ w (by omega) (by decide) (ascii_of_all (by decide))).mono ?_
    rintro e w1 ⟨rfl, hb⟩
    exact ⟨by rw [ht], hb⟩
  have hlen : t.size = (digs t.data.toList).length := by rw [Lib.size_eq]; simp [digs]
  have hdg : ∀ d ∈ digs t.data.toList, d < 10 := by
    intro d h
    simp only [digs, List.mem_map] at h
    obtain ⟨b, hb, rfl⟩ := h
    have := hd b hb
    simp only [isDig, decide_eq_true_eq] at this
    omega
  have hrow : ∀ w, Row (Lib.bytesWorld w 5 t) w.heap.size t.size (fun i => (digs t.data.toList).getD i 0) := by
    intro w i hi
    refine ⟨?_, ?_⟩
    · rw [Lib.bytesWorld_cell w 5 t i hi, digs_getD _ _ (by rw [← Lib.size_eq]; exact hi) hd]
    · exact frozen_bytes w t i hi
  obtain ⟨ds, hds⟩ : ∃ ds, digs t.data.toList = ds := ⟨_, rfl⟩
  rw [hds] at hlen hdg hrow
  have HR := Lib.hid hrow
  have HD := Lib.hid hdg
  obtain ⟨k, hk⟩ : ∃ k, t.size = k := ⟨_, rfl⟩
  rw [hk] at hts hlen HR
  have HL := Lib.hid hlen
  rw [hds, hk]
  obtain ⟨A, hA⟩ : ∃ A, dval ds * 65536 / 10 ^ k = A := ⟨_, rfl⟩
  obtain ⟨B, hB⟩ : ∃ B, leftN (dval ds) (10 ^ k) = B := ⟨_, rfl⟩
  rw [hA, hB]
  have HA := Lib.hid hA; have HB := Lib.hid hB
  clear ht hrow hdg hds hd hlen hA hB
  go_enter Tryz.func108, Tryz.ntmps108
  go_wp2_with (go_at_call 145; refine (HT.out _).mono ?_; rintro e w1 ⟨rfl, hb⟩)
  have hbw : Below w1.heap.size w1 (Lib.bytesWorld w1 5 t) := ⟨rfl, rfl, rfl, by rw [Lib.bytesWorld_size]; omega, fun j hj => Lib.bytesWorld_at_old w1 5 t j hj⟩
  have hsz : (Lib.bytesWorld w1 5 t).heap.size = w1.heap.size + 1 := Lib.bytesWorld_size w1 5 t
  have HR1 := Lib.hid (HR.out w1)
  generalize Lib.bytesWorld w1 5 t = w2 at *
  generalize grownCap w1 k 0 5 = cap at *
  go_loopw [2, 13] (fun n c wr => ∃ (N T : Nat) (es : List Nat), n = .int .u64 N ∧ c = .int .i64 T ∧ T ≤ 17 ∧ es.length = k ∧ (∀ d ∈ es, d < 10) ∧ N * 10 ^ k + dval es = dval ds * 2 ^ T ∧ Row wr w1.heap.size k (fun i => es.getD i 0) ∧ Below w1.heap.size w1 wr ∧ w1.heap.size < wr.heap.size) (fun _ c _ => 17 - (intOf c).toNat)
  case atStart => exact ⟨0, 0, ds, rfl, rfl, by omega, HL.out.symm, HD.out, by simp, HR1.out, hbw, by omega⟩
  case round =>
    obtain ⟨N, T, es, rfl, rfl, hT, hel, hed, hval, hrow, hbr, hlt⟩ := hrel
    have E1 := Lib.hid hel; have E2 := Lib.hid hed; have E3 := Lib.hid hval; have E4 := Lib.hid hrow
    clear hel hed hval hrow
    by_cases hT17 : T = 17
    · subst hT17
      clear hT
      obtain ⟨p1, p2, p3, p4, p5⟩ := part_plain (V := dval ds) (T := 10 ^ k) (N := N) (R := dval es) (Nat.pow_pos (by omega)) E3.out (by rw [← E1.out]; exact dval_lt _ E2.out)
      have hNb : N ≤ 131071 := n_bound (Nat.le_refl 17) (by rw [HL.out]; exact dval_lt _ HD.out) E3.out
      have hand : bits .and .u64 (N : Int) 1 = ((N % 2 : Nat) : Int) := and_one N (by omega)
      have hcb : (convert 132 9 (.slice (some ⟨w1.heap.size, 0, none⟩) k cap)).run Tryz.prog wr = .ok (.string ⟨(es.map fun d => UInt8.ofNat (48 + d)).toArray⟩) wr := by
        have := run_convert_bytes_back (P := Tryz.prog) wr 132 9 5 ⟨w1.heap.size, 0, none⟩ cap (es.map fun d => UInt8.ofNat (48 + d)) Tryz.underlying132 Tryz.underlying5 Tryz.underlying9 (fun j hj => by
          have hj' : j < es.length := by simpa using hj
          have h1 := (E4.out j (by rw [← E1.out]; exact hj')).1
          have h2 := E2.out es[j] (List.getElem_mem _)
          rw [show (⟨w1.heap.size, 0, none⟩ : Addr).add j = ⟨w1.heap.size, j, none⟩ by by_cases h0 : j = 0 <;> simp [Addr.add, h0]]
          simp only [List.getElem_map]
          have e1 : es.getD j 0 = es[j] := by rw [List.getD_eq_getElem?_getD, List.getElem?_eq_getElem hj']; rfl
          have e2 : (UInt8.ofNat (48 + es[j])).toNat = 48 + es[j] := by simp only [UInt8.toNat_ofNat']; omega
          rw [h1, e2]
          show some (Value.int .u8 (48 + (es.getD j 0 : Nat))) = _
          rw [e1]
          rfl)
        rwa [List.length_map, E1.out] at this
      have HZ : Hid (∀ w, Calls Tryz.prog 142 #[.string ⟨(es.map fun d => UInt8.ofNat (48 + d)).toArray⟩, .string ⟨#[48]⟩] w fun e w' => e = .returned (.string ⟨(Lib.trimS (es.map fun d => UInt8.ofNat (48 + d)) [48]).toArray⟩) ∧ Below w.heap.size w w') := fun w =>
        Tryz.strings_Trim _ ⟨#[48]⟩ w (by rw [Lib.size_eq]; simp [E1.out]; omega) (by decide) (ascii_of_all (by decide))
      have hemp : (Lib.trimS (es.map fun d => UInt8.ofNat (48 + d)) [48]).isEmpty = decide (dval es = 0) := trim_zero es E2.out
      obtain ⟨X, hX⟩ : ∃ X, Lib.trimS (es.map fun d => UInt8.ofNat (48 + d)) [48] = X := ⟨_, rfl⟩
      rw [hX] at HZ hemp
      obtain ⟨S, hS⟩ : ∃ S, (es.map fun d => UInt8.ofNat (48 + d)).toArray = S := ⟨_, rfl⟩
      rw [hS] at HZ hcb
      rw [HB.out] at p2 p3 p4 p5
      rw [HA.out] at p1
      have hq : (N : Int) / 2 = (A : Int) := by omega
      have hend : Below w.heap.size w wr := hb.trans (hbr.mono hb.size)
      have hsr := hend.size
      clear hX hS HA HB E3 E4 HD HL HR1 HR p1 hcv hk
      rcases Nat.mod_two_eq_zero_or_one N with h2 | h2
      · rw [h2] at hand
        by_cases h0 : dval es = 0
        · have hXn : X = [] := List.isEmpty_iff.1 (by rw [hemp]; simp [h0])
          obtain rfl : B = 0 := p2 h2 h0
          subst hXn
          clear hemp p2 p3 p4 p5 h0 h2
          go_wp2_with (go_at_call 142; refine (HZ.out _).mono ?_; rintro e w3 ⟨rfl, hb3⟩)
          go_ret2
          exact ⟨rfl, hend.trans (hb3.mono hsr)⟩
        · obtain ⟨x, xs, hXn⟩ : ∃ x xs, X = x :: xs := by
            cases X with
            | nil => simp at hemp; exact absurd hemp h0
            | cons x xs => exact ⟨x, xs, rfl⟩
          obtain rfl : B = 1 := p3 h2 h0
          subst hXn
          clear hemp p2 p3 p4 p5 h0 h2
          go_wp2_with (go_at_call 142; refine (HZ.out _).mono ?_; rintro e w3 ⟨rfl, hb3⟩)
          go_ret2
          exact ⟨rfl, hend.trans (hb3.mono hsr)⟩
      · rw [h2] at hand
        by_cases h0 : dval es = 0
        · have hXn : X = [] := List.isEmpty_iff.1 (by rw [hemp]; simp [h0])
          obtain rfl : B = 2 := p4 h2 h0
          subst hXn
          clear hemp p2 p3 p4 p5 h0 h2
          go_wp2_with (go_at_call 142; refine (HZ.out _).mono ?_; rintro e w3 ⟨rfl, hb3⟩)
          go_ret2
          exact ⟨rfl, hend.trans (hb3.mono hsr)⟩
        · obtain ⟨x, xs, hXn⟩ : ∃ x xs, X = x :: xs := by
            cases X with
            | nil => simp at hemp; exact absurd hemp h0
            | cons x xs => exact ⟨x, xs, rfl⟩
          obtain rfl : B = 3 := p5 h2 h0
          subst hXn
          clear hemp p2 p3 p4 p5 h0 h2
          go_wp2_with (go_at_call 142; refine (HZ.out _).mono ?_; rintro e w3 ⟨rfl, hb3⟩)
          go_ret2
          exact ⟨rfl, hend.trans (hb3.mono hsr)⟩
    · have hNb : N ≤ 131071 := n_bound hT (by rw [HL.out]; exact dval_lt _ HD.out) E3.out
      have hT' : (T : Int) < 17 := by omega
      have HT17 := Lib.hid hT17
      clear hT17
      go_wp2_with fail
      go_loopw [5, 6] (fun c i wx => ∃ (J : Nat) (I : Int), c = .int .u8 ((dbl (es.drop J)).2 : Nat) ∧ i = .int .i64 I ∧ I = (J : Int) - 1 ∧ J ≤ k ∧ Row wx w1.heap.size k (mid es J) ∧ Below w1.heap.size w1 wx ∧ w1.heap.size < wx.heap.size) (fun _ i _ => (intOf i + 1).toNat)
      case atStart => exact ⟨k, _, by rw [List.drop_eq_nil_of_le (by rw [E1.out]; exact Nat.le_refl _)]; rfl, rfl, rfl, Nat.le_refl _, E4.out.congr (fun i hi => by rw [← E1.out]; exact mid_top (by rw [E1.out]; exact hi)), hbr, hlt⟩
      case round =>
        obtain ⟨J, I, rfl, rfl, hI, hJ, hrow, hbx, hlx⟩ := hrel
        have E5 := Lib.hid hrow
        clear hrow
        by_cases hJ0 : J = 0
        · subst hJ0
          obtain rfl : I = -1 := by omega
          clear hI
          have hc := dbl_carry es E2.out
          simp only [List.drop_zero]
          obtain ⟨c, hcc⟩ : ∃ c, (dbl es).2 = c := ⟨_, rfl⟩
          rw [hcc] at hc ⊢
          have E6 := Lib.hid hcc
          clear hcc
          go_wp2_with fail
          go_roundw
          case rel =>
            refine ⟨2 * N + c, T + 1, (dbl es).1, by go_num, by go_num, by omega, by rw [dbl_len]; exact E1.out, dbl_dig es, ?_, E5.out.congr (fun i hi => (mid_zero es i).symm), hbx, hlx⟩
            have h1 := dbl_val es
            have h2 := E3.out
            rw [E6.out, E1.out] at h1
            rw [Nat.pow_succ, ← Nat.mul_assoc, ← h2, Nat.add_mul, Nat.mul_assoc]
            omega
          case measure => first | (simp [intOf]; done) | (simp [intOf]; omega)
        · obtain ⟨j, rfl⟩ : ∃ j, J = j + 1 := ⟨J - 1, by omega⟩
          obtain rfl : I = (j : Int) := by omega
          obtain ⟨k1, k2⟩ := E5.out j (by omega)
          have hjl : j < es.length := by rw [E1.out]; omega
          have hmid : mid es (j + 1) j = es.getD j 0 := by simp [mid]
          rw [hmid] at k1
          have hD : es.getD j 0 < 10 := by
            rw [List.getD_eq_getElem?_getD, List.getElem?_eq_getElem hjl]; exact E2.out _ (List.getElem_mem _)
          have hC : (dbl (es.drop (j + 1))).2 ≤ 1 := dbl_carry _ fun d hd => E2.out d (List.mem_of_mem_drop hd)
          obtain ⟨D, hDD⟩ : ∃ D, es.getD j 0 = D := ⟨_, rfl⟩
          obtain ⟨C, hCC⟩ : ∃ C, (dbl (es.drop (j + 1))).2 = C := ⟨_, rfl⟩
          rw [hDD] at k1 hD
          rw [hCC] at hC ⊢
          have E7 := Lib.hid hDD; have E8 := Lib.hid hCC; have E9 := Lib.hid hjl
          clear hDD hCC hmid hJ0 hjl hI
          go_wp2_with fail
          go_roundw
          case rel =>
            refine ⟨j, (j : Int) - 1, ?_, rfl, rfl, by omega, ?_, hbx.setCell (Nat.le_refl _) _, by simpa [World.setCell] using hlx⟩
            · rw [carry_here E9.out, E7.out, E8.out]
              congr 1
              first | omega | (rw [Int.tdiv_eq_ediv_of_nonneg (by omega)]; omega)
            · refine E5.out.set (by omega) ?_ (fun i hi hij => ?_)
              · rw [mid_here E9.out, E7.out, E8.out]
                first | omega | (rw [Int.tmod_eq_emod_of_nonneg (by omega)]; omega)
              · rcases Nat.lt_or_ge i j with h | h
                · exact mid_before h
                · exact mid_behind E9.out (by omega)
          case measure => first | (simp [intOf]; done) | (simp [intOf]; omega)
end Go.Proofs.YthkhhjfldkebcaaGreatDoor
