/- Contract: the document's integer. -/
import Derived.Test.YtmhlialdbggmdaaGreatDoorRt
import Derived.Deep.Cut
namespace Go.Proofs.YtmhlialdbggmdaaGreatDoor
open Go.RowKit Go.Proofs Go.Shelf

theorem in_yes {n a b : Int} (h : a ≤ n ∧ n ≤ b) (w : World) : Calls Tryz.prog 64 #[.int .i64 n, .int .i64 a, .int .i64 b] w fun e w' => e = .returned (.bool true) ∧ w = w' :=
  (refIn n a b w).mono fun e w' ⟨he, hw⟩ => ⟨he.trans (by rw [decide_eq_true h]), hw⟩
theorem in_no {n a b : Int} (h : ¬ (a ≤ n ∧ n ≤ b)) (w : World) : Calls Tryz.prog 64 #[.int .i64 n, .int .i64 a, .int .i64 b] w fun e w' => e = .returned (.bool false) ∧ w = w' :=
  (refIn n a b w).mono fun e w' ⟨he, hw⟩ => ⟨he.trans (by rw [decide_eq_false h]), hw⟩
def IntC (s : ByteArray) (w : World) (e : Ending) (w' : World) : Prop := (∃ n b, e = .returned (.tuple #[.int .i64 n, .bool b]) ∧ (b = true → intOk s.data.toList n) ∧ (b = false → ∀ m, ¬ intOk s.data.toList m)) ∧ Below w.heap.size w w'

set_option maxRecDepth 100000 in
set_option maxHeartbeats 4000000 in
theorem refInteger (s : ByteArray) (hs : s.size ≤ 100000) (w : World) : Calls Tryz.prog 80 #[.string s] w (IntC s w) := by
  by_cases h0 : 0 < s.size
  · obtain ⟨c, hc⟩ : ∃ c, s[0]'h0 = c := ⟨_, rfl⟩
    have h0' : (0 : Int) < (s.size : Int) := by omega
    have hg : s.data.toList = c :: s.data.toList.tail := by
      have hl : 0 < s.data.toList.length := by rw [← Lib.size_eq]; exact h0
      cases hd : s.data.toList with
      | nil => rw [hd] at hl; simp at hl
      | cons a l =>
        have := byte_at s 0 h0
        rw [hc, hd] at this
        simp at this; rw [this]; rfl
    by_cases hm : c = 45
    · subst hm
      obtain ⟨r, hr⟩ : ∃ r, s.data.toList.tail = r := ⟨_, rfl⟩
      rw [hr] at hg
      obtain ⟨x, hx⟩ : ∃ x, s.extract 1 s.size = x := ⟨_, rfl⟩
      have hxl : x.data.toList = r := by
        rw [← hx, Lib.extract_data, List.take_of_length_le (by rw [List.length_drop, ← Lib.size_eq]; omega), hg]; rfl
      have HX := Lib.hid hxl
      have hxs : x.size = r.length := by rw [Lib.size_eq, hxl]
      have HBAD : Hid (∀ m, intOk s.data.toList m → bareOk r ∧ (true = true → r.getD 0 0 ≠ 48)) := fun m h => by
        rw [hg] at h
        rcases int_form h with ⟨r', e1, e2, e3⟩ | e2
        · injection e1 with _ e1; subst e1; exact ⟨e2, fun _ => e3⟩
        · have := e2.2.1; simp [isDig] at this
      have HYES : Hid (bareOk r → (true = true → r.getD 0 0 ≠ 48) → intOk s.data.toList (-(numN r : Nat))) := fun h1 h2 => by
        rw [hg]; exact int_minus h1 (h2 rfl)
      have HXS := Lib.hid hxs
      clear hg hr hxl hxs
      go_enter Tryz.func80, Tryz.ntmps80
      go_upto_region 4 with fail
      clear hx hc
      by_cases h18 : 1 ≤ x.size ∧ x.size ≤ 18
      · obtain ⟨h1, h2⟩ := h18
        have hR64 : Hid (∀ w, Calls Tryz.prog 64 #[.int .i64 x.size, .int .i64 1, .int .i64 18] w fun e w' => e = .returned (.bool true) ∧ w = w') := fun w => in_yes (by omega) w
        have hz0 : (0 : Int) < (x.size : Int) := by omega
        obtain ⟨c0, hc0⟩ : ∃ c, x[0]'(by omega) = c := ⟨_, rfl⟩
        have hg0 : r.getD 0 0 = c0 := by
          rw [← HX.out, ← hc0]; exact (byte_at x 0 (by omega)).symm
        by_cases hlead : c0 = 48 ∧ (1 < x.size ∨ true = true)
        · obtain ⟨rfl, hl2⟩ := hlead
          have hno : Hid (∀ m, ¬ intOk s.data.toList m) := fun m h => by
            obtain ⟨hb, hm⟩ := HBAD.out m h
            rcases hl2 with h3 | h3
            · rcases hb.2.2 with h4 | h4
              · rw [HXS.out] at h3; omega
              · exact h4 hg0
            · exact hm h3 hg0
          have hz0n : 0 < x.size := by omega
          have hq : 1 < x.size ∨ ¬ 1 < x.size := by omega
          clear hl2 HBAD HYES hg0
          rcases hq with hq | hq
          all_goals
            try have hq' : decide (1 < x.size) = false := by simpa using hq
            go_wp2_with (go_at_call 64; refine (hR64.out _).mono ?_; rintro e w1 ⟨rfl, rfl⟩)
            all_goals
              go_ret2
              exact ⟨⟨_, _, rfl, nofun, fun _ => hno.out⟩, Below.refl _ _⟩
        · have HBB : Hid (r.length = 1 ∨ r.getD 0 0 ≠ 48) := by
            show _ ∨ _
            rw [← HXS.out]
            by_cases h : x.size = 1
            · exact .inl h
            · right; rw [hg0]; exact fun e => hlead ⟨e, .inl (by omega)⟩
          have HMM : Hid (true = true → r.getD 0 0 ≠ 48) := fun h => by rw [hg0]; exact fun e => hlead ⟨e, .inr h⟩
          have hne0 : c0 ≠ 48 := fun e => hlead ⟨e, .inr rfl⟩
          have hcb : ((c0.toNat : Int) == 48) = false := by
            rw [beq_eq_false_iff_ne]; intro h; exact hne0 (UInt8.toNat_inj.1 (by simp; omega))
          clear hlead hne0 hg0
          all_goals
            go_wp2_with (go_at_call 64; refine (hR64.out _).mono ?_; rintro e w1 ⟨rfl, rfl⟩)
            clear hR64 hz0
            try clear hcb
            try clear hq
            try clear hq1
            try clear hq2
            try clear hc
            try clear hc0
            go_loop [5, 6] (fun nv iv => ∃ i : Nat, i ≤ x.size ∧ iv = .int .i64 i ∧ nv = .int .i64 (numN (r.take i) : Nat) ∧ Hid ((r.take i).all isDig = true)) (fun _ iv => x.size - (intOf iv).toNat)
            case atStart => exact ⟨0, by omega, rfl, rfl, rfl⟩
            case round =>
              obtain ⟨i, hi, rfl, rfl, hd⟩ := hrel
              have HD := Lib.hid hd.out
              clear hd
              by_cases hlt : i < x.size
              · obtain ⟨b, hb⟩ : ∃ b, x[i] = b := ⟨_, rfl⟩
                have hir : i < r.length := by rw [← HXS.out]; exact hlt
                have HG : Hid (r[i]'hir = b) := by
                  show _ = _
                  rw [← hb, byte_at x i hlt]
                  rw [List.getD_eq_getElem?_getD, HX.out, List.getElem?_eq_getElem hir]; rfl
                obtain ⟨N, hN⟩ : ∃ N, numN (r.take i) = N := ⟨_, rfl⟩
                have hN17 : N ≤ 100000000000000000 := by
                  have h1 := numN_lt (r.take i) HD.out
                  have h2 : 10 ^ (r.take i).length ≤ 10 ^ 17 := Nat.pow_le_pow_right (by omega) (by rw [List.length_take]; omega)
                  have h3 : (10 : Nat) ^ 17 = 100000000000000000 := by decide
                  omega
                have hbt := b.toNat_lt
                by_cases hdg : 48 ≤ b.toNat ∧ b.toNat ≤ 57
                · obtain ⟨d, hd⟩ : ∃ d, b.toNat = 48 + d := ⟨b.toNat - 48, by omega⟩
                  have hd9 : d ≤ 9 := by omega
                  have HT : Hid (r.take (i + 1) = r.take i ++ [b]) := by show _ = _; rw [List.take_succ_eq_append_getElem hir, HG.out]
                  have HDB : Hid (isDig b = true) := by show _ = _; unfold isDig; simpa using hdg
                  have HNN : Hid (numN (r.take (i + 1)) = N * 10 + d) := by
                    show _ = _
                    rw [HT.out, numN_snoc, hN, hd]; omega
                  have HN := Lib.hid hN
                  rw [hN]
                  have k1 : ¬ (b.toNat : Int) < 48 := by omega
                  have k2 : ¬ (57 : Int) < (b.toNat : Int) := by omega
                  have k3 : (b.toNat : Int) = 48 + (d : Int) := by omega
                  clear hdg hN hd
                  go_wp2_with fail
                  go_round
                  case rel =>
                    refine ⟨i + 1, by omega, by go_num, ?_, ?_⟩
                    · rw [HNN.out]; go_num
                    · show _ = _; rw [HT.out, List.all_append, HD.out]; simp [HDB.out]
                  case measure => simp [intOf]; omega
                · have hno : Hid (∀ m, ¬ intOk s.data.toList m) := fun m h => by
                    have h1 := (HBAD.out m h).1.2.1
                    rw [List.all_eq_true] at h1
                    have := h1 _ (List.getElem_mem hir)
                    rw [HG.out] at this
                    unfold isDig at this
                    simp at this; omega
                  have HN := Lib.hid hN
                  rw [hN]
                  clear HBAD HYES HBB HMM hN
                  rcases (show b.toNat < 48 ∨ 57 < b.toNat by omega) with hk | hk
                  all_goals
                    have hk' : ((b.toNat : Int) < 48 ∨ 57 < (b.toNat : Int)) := by omega
                    try have hk1 : (b.toNat : Int) < 48 := by omega
                    try have hk2 : ¬ (b.toNat : Int) < 48 := by omega
                    try have hk3 : (57 : Int) < (b.toNat : Int) := by omega
                    clear hk' hdg
                    go_wp2_with fail
                    go_ret2
                    exact ⟨⟨_, _, rfl, nofun, fun _ => hno.out⟩, Below.refl _ _⟩
              · obtain rfl : i = x.size := by omega
                have HF : Hid (intOk s.data.toList (-(numN r : Nat))) := by
                  have e : r.take x.size = r := by rw [HXS.out, List.take_length]
                  have h3 := HD.out
                  rw [e] at h3
                  exact HYES.out ⟨by rw [← HXS.out]; exact ⟨h1, h2⟩, h3, HBB.out⟩ HMM.out
                have HL : Hid (numN r < 1000000000000000000) := by
                  have e : r.take x.size = r := by rw [HXS.out, List.take_length]
                  have h3 := HD.out
                  rw [e] at h3
                  exact bound18 ⟨by rw [← HXS.out]; exact ⟨h1, h2⟩, h3, HBB.out⟩
                have e : r.take x.size = r := by rw [HXS.out, List.take_length]
                rw [e]
                obtain ⟨N, hN⟩ : ∃ N, numN r = N := ⟨_, rfl⟩
                rw [hN] at HF HL
                rw [hN]
                have hl := HL.out
                clear e hN HBAD HYES HBB HMM
                go_wp2_with fail
                go_ret2
                exact ⟨⟨_, _, rfl, fun _ => HF.out, nofun⟩, Below.refl _ _⟩
      · have hno : Hid (∀ m, ¬ intOk s.data.toList m) := fun m h => h18 (by
          obtain ⟨hb, -⟩ := HBAD.out m h
          rw [HXS.out]; exact hb.1)
        have hR64 : Hid (∀ w, Calls Tryz.prog 64 #[.int .i64 x.size, .int .i64 1, .int .i64 18] w fun e w' => e = .returned (.bool false) ∧ w = w') := fun w => in_no (by omega) w
        clear h18 HBAD HYES
        go_wp2_with (go_at_call 64; refine (hR64.out _).mono ?_; rintro e w1 ⟨rfl, rfl⟩)
        go_ret2
        exact ⟨⟨_, _, rfl, nofun, fun _ => hno.out⟩, Below.refl _ _⟩

    · obtain ⟨r, hr⟩ : ∃ r, s.data.toList = r := ⟨_, rfl⟩
      have HX := Lib.hid hr
      have HXS : Hid (s.size = r.length) := by show _ = _; rw [Lib.size_eq, hr]
      have HBAD : Hid (∀ m, intOk s.data.toList m → bareOk r ∧ (false = true → r.getD 0 0 ≠ 48)) := fun m h => by
        rcases int_form h with ⟨r', e1, -, -⟩ | e2
        · rw [hg] at e1; injection e1 with e1 _; exact absurd e1 hm
        · rw [← hr]; exact ⟨e2, nofun⟩
      have HYES : Hid (bareOk r → (false = true → r.getD 0 0 ≠ 48) → intOk s.data.toList (numN r : Nat)) := fun h1 _ => by
        rw [hr]; exact int_plain h1
      have hcm : ((c.toNat : Int) == 45) = false := by
        rw [beq_eq_false_iff_ne]; intro h; exact hm (UInt8.toNat_inj.1 (by simp; omega))
      clear hg hr hm
      go_enter Tryz.func80, Tryz.ntmps80
      go_upto_region 4 with fail
      clear hcm
      by_cases h18 : 1 ≤ s.size ∧ s.size ≤ 18
      · obtain ⟨h1, h2⟩ := h18
        have hR64 : Hid (∀ w, Calls Tryz.prog 64 #[.int .i64 s.size, .int .i64 1, .int .i64 18] w fun e w' => e = .returned (.bool true) ∧ w = w') := fun w => in_yes (by omega) w
        have hz0 : (0 : Int) < (s.size : Int) := by omega
        have hg0 : r.getD 0 0 = c := by
          rw [← HX.out, ← hc]; exact (byte_at s 0 (by omega)).symm
        by_cases hlead : c = 48 ∧ (1 < s.size ∨ false = true)
        · obtain ⟨rfl, hl2⟩ := hlead
          have hno : Hid (∀ m, ¬ intOk s.data.toList m) := fun m h => by
            obtain ⟨hb, hm⟩ := HBAD.out m h
            rcases hl2 with h3 | h3
            · rcases hb.2.2 with h4 | h4
              · rw [HXS.out] at h3; omega
              · exact h4 hg0
            · exact hm h3 hg0
          have hz0n : 0 < s.size := by omega
          have hq : 1 < s.size := hl2.elim id nofun
          clear hl2 HBAD HYES hg0
          all_goals
            go_wp2_with (go_at_call 64; refine (hR64.out _).mono ?_; rintro e w1 ⟨rfl, rfl⟩)
            all_goals
              go_ret2
              exact ⟨⟨_, _, rfl, nofun, fun _ => hno.out⟩, Below.refl _ _⟩
        · have HBB : Hid (r.length = 1 ∨ r.getD 0 0 ≠ 48) := by
            show _ ∨ _
            rw [← HXS.out]
            by_cases h : s.size = 1
            · exact .inl h
            · right; rw [hg0]; exact fun e => hlead ⟨e, .inl (by omega)⟩
          have HMM : Hid (false = true → r.getD 0 0 ≠ 48) := fun h => by rw [hg0]; exact fun e => hlead ⟨e, .inr h⟩
          have hq : ((c.toNat : Int) == 48) = false ∨ (c = 48 ∧ ¬ 1 < s.size ∧ decide (1 < s.size) = false) := by
            by_cases e : c = 48
            · right
              subst e
              have hx : ¬ 1 < s.size := fun h => hlead ⟨rfl, .inl h⟩
              exact ⟨rfl, hx, decide_eq_false hx⟩
            · left; rw [beq_eq_false_iff_ne]; intro h; exact e (UInt8.toNat_inj.1 (by simp; omega))
          clear hlead hg0
          have hz0n : 0 < s.size := by omega
          rcases hq with hq | ⟨rfl, hq1, hq2⟩
          all_goals
            go_wp2_with (go_at_call 64; refine (hR64.out _).mono ?_; rintro e w1 ⟨rfl, rfl⟩)
            clear hR64 hz0
            try clear hcb
            try clear hq
            try clear hq1
            try clear hq2
            try clear hc
            try clear hc0
            go_loop [5, 6] (fun nv iv => ∃ i : Nat, i ≤ s.size ∧ iv = .int .i64 i ∧ nv = .int .i64 (numN (r.take i) : Nat) ∧ Hid ((r.take i).all isDig = true)) (fun _ iv => s.size - (intOf iv).toNat)
            case atStart => exact ⟨0, by omega, rfl, rfl, rfl⟩
            case round =>
              obtain ⟨i, hi, rfl, rfl, hd⟩ := hrel
              have HD := Lib.hid hd.out
              clear hd
              by_cases hlt : i < s.size
              · obtain ⟨b, hb⟩ : ∃ b, s[i] = b := ⟨_, rfl⟩
                have hir : i < r.length := by rw [← HXS.out]; exact hlt
                have HG : Hid (r[i]'hir = b) := by
                  show _ = _
                  rw [← hb, byte_at s i hlt]
                  rw [List.getD_eq_getElem?_getD, HX.out, List.getElem?_eq_getElem hir]; rfl
                obtain ⟨N, hN⟩ : ∃ N, numN (r.take i) = N := ⟨_, rfl⟩
                have hN17 : N ≤ 100000000000000000 := by
                  have h1 := numN_lt (r.take i) HD.out
                  have h2 : 10 ^ (r.take i).length ≤ 10 ^ 17 := Nat.pow_le_pow_right (by omega) (by rw [List.length_take]; omega)
                  have h3 : (10 : Nat) ^ 17 = 100000000000000000 := by decide
                  omega
                have hbt := b.toNat_lt
                by_cases hdg : 48 ≤ b.toNat ∧ b.toNat ≤ 57
                · obtain ⟨d, hd⟩ : ∃ d, b.toNat = 48 + d := ⟨b.toNat - 48, by omega⟩
                  have hd9 : d ≤ 9 := by omega
                  have HT : Hid (r.take (i + 1) = r.take i ++ [b]) := by show _ = _; rw [List.take_succ_eq_append_getElem hir, HG.out]
                  have HDB : Hid (isDig b = true) := by show _ = _; unfold isDig; simpa using hdg
                  have HNN : Hid (numN (r.take (i + 1)) = N * 10 + d) := by
                    show _ = _
                    rw [HT.out, numN_snoc, hN, hd]; omega
                  have HN := Lib.hid hN
                  rw [hN]
                  have k1 : ¬ (b.toNat : Int) < 48 := by omega
                  have k2 : ¬ (57 : Int) < (b.toNat : Int) := by omega
                  have k3 : (b.toNat : Int) = 48 + (d : Int) := by omega
                  clear hdg hN hd
                  go_wp2_with fail
                  go_round
                  case rel =>
                    refine ⟨i + 1, by omega, by go_num, ?_, ?_⟩
                    · rw [HNN.out]; go_num
                    · show _ = _; rw [HT.out, List.all_append, HD.out]; simp [HDB.out]
                  case measure => simp [intOf]; omega
                · have hno : Hid (∀ m, ¬ intOk s.data.toList m) := fun m h => by
                    have h1 := (HBAD.out m h).1.2.1
                    rw [List.all_eq_true] at h1
                    have := h1 _ (List.getElem_mem hir)
                    rw [HG.out] at this
                    unfold isDig at this
                    simp at this; omega
                  have HN := Lib.hid hN
                  rw [hN]
                  clear HBAD HYES HBB HMM hN
                  rcases (show b.toNat < 48 ∨ 57 < b.toNat by omega) with hk | hk
                  all_goals
                    have hk' : ((b.toNat : Int) < 48 ∨ 57 < (b.toNat : Int)) := by omega
                    try have hk1 : (b.toNat : Int) < 48 := by omega
                    try have hk2 : ¬ (b.toNat : Int) < 48 := by omega
                    try have hk3 : (57 : Int) < (b.toNat : Int) := by omega
                    clear hk' hdg
                    go_wp2_with fail
                    go_ret2
                    exact ⟨⟨_, _, rfl, nofun, fun _ => hno.out⟩, Below.refl _ _⟩
              · obtain rfl : i = s.size := by omega
                have HF : Hid (intOk s.data.toList ((numN r : Nat))) := by
                  have e : r.take s.size = r := by rw [HXS.out, List.take_length]
                  have h3 := HD.out
                  rw [e] at h3
                  exact HYES.out ⟨by rw [← HXS.out]; exact ⟨h1, h2⟩, h3, HBB.out⟩ HMM.out
                have HL : Hid (numN r < 1000000000000000000) := by
                  have e : r.take s.size = r := by rw [HXS.out, List.take_length]
                  have h3 := HD.out
                  rw [e] at h3
                  exact bound18 ⟨by rw [← HXS.out]; exact ⟨h1, h2⟩, h3, HBB.out⟩
                have e : r.take s.size = r := by rw [HXS.out, List.take_length]
                rw [e]
                obtain ⟨N, hN⟩ : ∃ N, numN r = N := ⟨_, rfl⟩
                rw [hN] at HF HL
                rw [hN]
                have hl := HL.out
                clear e hN HBAD HYES HBB HMM
                go_wp2_with fail
                go_ret2
                exact ⟨⟨_, _, rfl, fun _ => HF.out, nofun⟩, Below.refl _ _⟩
      · have hno : Hid (∀ m, ¬ intOk s.data.toList m) := fun m h => h18 (by
          obtain ⟨hb, -⟩ := HBAD.out m h
          rw [HXS.out]; exact hb.1)
        have hR64 : Hid (∀ w, Calls Tryz.prog 64 #[.int .i64 s.size, .int .i64 1, .int .i64 18] w fun e w' => e = .returned (.bool false) ∧ w = w') := fun w => in_no (by omega) w
        clear h18 HBAD HYES
        go_wp2_with (go_at_call 64; refine (hR64.out _).mono ?_; rintro e w1 ⟨rfl, rfl⟩)
        go_ret2
        exact ⟨⟨_, _, rfl, nofun, fun _ => hno.out⟩, Below.refl _ _⟩

  · have hl : s.data.toList = [] := List.length_eq_zero_iff.1 (by rw [← Lib.size_eq]; omega)
    have hno : Hid (∀ m, ¬ intOk s.data.toList m) := fun m h => by
      rw [hl] at h
      rcases int_form h with ⟨r, e, -⟩ | h
      · cases e
      · have := h.1.1; simp at this
    obtain rfl : s = ByteArray.empty := by
      apply ByteArray.ext; apply Array.toList_inj.1; rw [hl]; rfl
    have hR64 : Hid (∀ w, Calls Tryz.prog 64 #[.int .i64 0, .int .i64 1, .int .i64 18] w fun e w' => e = .returned (.bool false) ∧ w = w') := fun w => refIn 0 1 18 w
    clear hl h0 hs
    go_enter Tryz.func80, Tryz.ntmps80
    go_wp2_with (go_at_call 64; refine (hR64.out _).mono ?_; rintro e w1 ⟨rfl, rfl⟩)
    go_ret2
    exact ⟨⟨_, _, rfl, nofun, fun _ => hno.out⟩, Below.refl _ _⟩
end Go.Proofs.YtmhlialdbggmdaaGreatDoor
