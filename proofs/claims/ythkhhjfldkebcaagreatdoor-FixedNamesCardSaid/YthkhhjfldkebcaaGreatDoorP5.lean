/- The contract of Read. -/
import Derived.Test.YthkhhjfldkebcaaGreatDoorP4
import Derived.Lib.SmallJoins
namespace Go.Proofs.YthkhhjfldkebcaaGreatDoor
open Go.RowKit Go.Proofs Go.Shelf

/-- What Read asks of the library's variables. -/
structure Mem (w : World) : Prop where
  maxlen : ∃ m, w.cell? ⟨2, 0, none⟩ = some (.int .i64 m)
  err : ∃ ev, w.cell? ⟨4, 0, none⟩ = some ev ∧ (ev = .nilIface ∨ ∃ te pe, ev = .iface te pe)
theorem Mem.up {w w' : World} (h : Mem w) (hb : Below w.heap.size w w') : Mem w' := by
  obtain ⟨m, h1⟩ := h.maxlen
  obtain ⟨ev, h2, h3⟩ := h.err
  have l1 := lt_cell h1; have l2 := lt_cell h2
  exact ⟨⟨m, (hb.cell (p := ⟨2, 0, none⟩) l1).trans h1⟩, ⟨ev, (hb.cell (p := ⟨4, 0, none⟩) l2).trans h2, h3⟩⟩

theorem part_str (s : ByteArray) (w : World) (hs : s.size ≤ 1000) (hd : ∀ b ∈ s.data.toList, isDig b = true) :
    Calls Tryz.prog 108 #[.string s] w fun e w' => e = .returned (.tuple #[.int .u64 (fracP s.data.toList), .int .i64 (fracL s.data.toList)]) ∧ Below w.heap.size w w' := by
  have hl : (Lib.trimRightS s.data.toList [48]).length ≤ 1000 := by have := trim_len s.data.toList; rw [Lib.size_eq] at hs; omega
  refine (part_any s ⟨(Lib.trimRightS s.data.toList [48]).toArray⟩ w hs rfl (by rw [Lib.size_eq]; simpa using hl) (by simpa using trim_dig hd)).mono ?_
  rintro e w' ⟨rfl, hb⟩
  obtain ⟨e1, e2⟩ := frac_trim s.data.toList
  refine ⟨?_, hb⟩
  rw [← e1, ← e2, Lib.size_eq]
  rfl

theorem fracP_le (l : List UInt8) (h : ∀ b ∈ l, isDig b = true) : fracP l ≤ 65535 := by
  have h1 : numN l < 10 ^ l.length := by
    rw [← digs_len]
    refine dval_lt _ fun d hd => ?_
    simp only [digs, List.mem_map] at hd
    obtain ⟨b, hb, rfl⟩ := hd
    have := h b hb
    simp only [isDig, decide_eq_true_eq] at this
    omega
  have h2 : numN l * 65536 < 65536 * 10 ^ l.length := by rw [Nat.mul_comm]; exact Nat.mul_lt_mul_of_pos_left h1 (by omega)
  have := Nat.div_lt_of_lt_mul (m := numN l * 65536) (n := 10 ^ l.length) (k := 65536) (by rw [Nat.mul_comm (10 ^ l.length)]; exact h2)
  unfold fracP; omega
theorem cut_none (b : List UInt8) (h : (Lib.cut b [46]).2.2 = false) : (Lib.cut b [46]).2.1 = [] := by
  unfold Lib.cut at h ⊢
  split at h
  · cases h
  · rename_i hn; rw [if_neg hn]
theorem head0 (H : ByteArray) (h : 0 < H.size) : H.data.toList.getD 0 0 = H[0]'h := by
  obtain ⟨⟨l⟩⟩ := H
  cases l with
  | nil => exact absurd h (by decide)
  | cons b l => rfl
set_option maxHeartbeats 2000000 in
theorem cl103 (p q : Nat) (s : ByteArray) (how : Int) (w : World) (hp : w.cell? ⟨p, 0, none⟩ = some (.int .i64 how)) (hq : w.cell? ⟨q, 0, none⟩ = some (.string s)) (hs : s.size ≤ 9223372036854775807) (hM : Mem w) :
    Calls Tryz.prog 103 #[.pointer (some ⟨p, 0, none⟩), .pointer (some ⟨q, 0, none⟩)] w (Do w ((readR s.data.toList how).map (.int .i64 ·))) := by
  have hz := Lib.size_eq s
  unfold readR
  by_cases hh : HowOk how
  · rw [if_pos hh]
    have GH := Lib.hid hh
    obtain ⟨h0, h3⟩ := hh
    by_cases hl : s.data.toList.length ≤ 60
    · rw [if_pos hl]
      rw [← hz] at hl
      have HCP : Hid (∀ w, Calls Tryz.prog 104 #[.string s, .string ⟨#[45]⟩] w fun e w' => e = .returned (.tuple #[.string ⟨(Lib.trimPrefix s.data.toList [45]).toArray⟩, .bool (Lib.hasPrefix s.data.toList [45])]) ∧ w = w') := fun w => (Tryz.strings_CutPrefix s ⟨#[45]⟩ w).mono fun e w' h => ⟨h.1, h.2.symm⟩
      obtain ⟨neg, hneg⟩ : ∃ neg, Lib.hasPrefix s.data.toList [45] = neg := ⟨_, rfl⟩
      obtain ⟨b, hb⟩ : ∃ b, Lib.trimPrefix s.data.toList [45] = b := ⟨_, rfl⟩
      have hbl : b.length ≤ 60 := by
        rw [← hb]; unfold Lib.trimPrefix; split <;> simp <;> omega
      rw [hneg, hb] at HCP
      rw [hneg, hb]
      obtain ⟨hd, hhd⟩ : ∃ hd, (Lib.cut b [46]).1 = hd := ⟨_, rfl⟩
      obtain ⟨tl, htl⟩ : ∃ tl, (Lib.cut b [46]).2.1 = tl := ⟨_, rfl⟩
      obtain ⟨pt, hpt⟩ : ∃ pt, (Lib.cut b [46]).2.2 = pt := ⟨_, rfl⟩
      have hdl : hd.length ≤ 60 := by rw [← hhd]; unfold Lib.cut; split <;> simp <;> omega
      have htll : tl.length ≤ 60 := by rw [← htl]; unfold Lib.cut; split <;> simp <;> omega
      have HCT : Hid (∀ w, Mem w → Calls Tryz.prog 105 #[.string ⟨b.toArray⟩, .string ⟨#[46]⟩] w fun e w' => e = .returned (.tuple #[.string ⟨hd.toArray⟩, .string ⟨tl.toArray⟩, .bool pt]) ∧ Below w.heap.size w w') := by
        intro w hM
        obtain ⟨m, hm⟩ := hM.maxlen
        refine (Tryz.strings_Cut ⟨b.toArray⟩ ⟨#[46]⟩ m w (by rw [Lib.size_eq]; simp; omega) hm).mono ?_
        rintro e w' ⟨rfl, n, rfl⟩
        refine ⟨?_, below_drewN (Below.refl _ _) n⟩
        rw [← hhd, ← htl, ← hpt]
      have hpe : pt = false → tl = [] := by
        intro h; rw [← htl]; rw [← hpt] at h; exact cut_none b h
      rw [hhd, htl, hpt]
      obtain ⟨H, hH⟩ : ∃ H : ByteArray, H = ⟨hd.toArray⟩ := ⟨_, rfl⟩
      obtain ⟨T, hT⟩ : ∃ T : ByteArray, T = ⟨tl.toArray⟩ := ⟨_, rfl⟩
      obtain ⟨B, hB⟩ : ∃ B : ByteArray, B = ⟨b.toArray⟩ := ⟨_, rfl⟩
      have hHd : H.data.toList = hd := by rw [hH]
      have hTd : T.data.toList = tl := by rw [hT]
      have hHs : H.size ≤ 60 := by rw [Lib.size_eq, hHd]; exact hdl
      have hTs : T.size ≤ 60 := by rw [Lib.size_eq, hTd]; exact htll
      rw [← hH, ← hT, ← hB] at HCT
      rw [← hB] at HCP
      have hHz : H.size = hd.length := by rw [Lib.size_eq, hHd]
      have PH : Hid (∀ w, Calls Tryz.prog 106 #[.string H] w fun e w' => e = .returned (.bool (plainB hd)) ∧ Below w.heap.size w w') := fun w => by have := plain_any H w (by omega); rwa [hHd] at this
      have PT : Hid (∀ w, Calls Tryz.prog 106 #[.string T] w fun e w' => e = .returned (.bool (plainB tl)) ∧ Below w.heap.size w w') := fun w => by have := plain_any T w (by omega); rwa [hTd] at this
      have HM := Lib.hid hM
      have hl' : ((s.size : Int) ≤ 60) := by omega
      clear hz hneg hb hhd htl hpt hH hT hB hM hdl htll hbl
      by_cases hF : plainB hd = true ∧ (hd.length = 1 ∨ hd.getD 0 0 ≠ 48) ∧ (pt = false ∨ plainB tl = true)
      · simp only [if_pos hF]
        have HF := Lib.hid hF
        clear hF
        obtain ⟨R, hR⟩ : ∃ R : Except Int Int, (if numN hd ≤ 1073741824 then fitR ((numN hd * 65536 + fracP tl : Nat) + (if fracL tl = 0 then 0 else b2i (rndB (119 + how.toNat) ((fracL tl : Int) - 2) neg))) neg else .error 4) = R := ⟨_, rfl⟩
        rw [hR]
        have HRR := Lib.hid hR
        clear hR
        go_enter Tryz.func103, Tryz.ntmps103
        go_upto_region 5 with (first
          | (go_at_call 57; refine (ways_ok _ _ h0 h3).mono ?_; rintro e w' ⟨rfl, rfl⟩)
          | (go_at_call 60; refine (need_ok _ _).mono ?_; rintro e w' ⟨rfl, rfl⟩)
          | (go_at_call 104; refine (HCP.out _).mono ?_; rintro e w' ⟨rfl, rfl⟩)
          | (go_at_call 105; refine (HCT.out _ HM.out).mono ?_; rintro e w1 ⟨rfl, hb1⟩))
        go_cut [] from 31 to 51 (fun wx => Below w.heap.size w wx)
        case first =>
          obtain ⟨f1, f2, f3⟩ := HF.out
          have eH : plainB H.data.toList = true := by rw [hHd]; exact f1
          have h4 : 0 < H.size := by
            rw [hHz]; rcases Nat.eq_zero_or_pos hd.length with h | h
            · rw [List.length_eq_zero_iff.1 h] at f1; simp [plainB] at f1
            · exact h
          have f2' : H.size = 1 ∨ (((H.size : Int) == 1) = false ∧ (((H[0]'h4).toNat : Int) != 48) = true) := by
            by_cases h5 : hd.length = 1
            · exact .inl (by omega)
            · refine .inr ⟨by simp; omega, ?_⟩
              rw [← head0 H h4, hHd]
              simp only [bne_iff_ne, ne_eq]
              intro h6
              exact f2.resolve_left h5 (UInt8.toNat_inj.1 (show (hd.getD 0 0).toNat = 48 by omega))
          rw [← hTd] at f3
          clear hHz hHd hTd f1 f2
          rcases f2' with f2 | ⟨f2, f5⟩ <;> rcases f3 with rfl | f3 <;> try cases pt
          all_goals
            go_wp2_with (first
              | (go_at_call 106; refine (plain_any _ _ (by omega)).mono ?_; rintro e w2 ⟨rfl, hb2⟩; replace hb1 := hb1.trans (hb2.mono hb1.size); clear hb2)
              | (go_at_call 60; refine (need_ok _ _).mono ?_; rintro e w' ⟨rfl, rfl⟩))
          all_goals
            go_wp2_with fail
            go_meet
            case rel => exact hb1
        case rest =>
          obtain ⟨f1, -, f3⟩ := HF.out
          have hpu := parse_plain f1
          have htd : ∀ b ∈ T.data.toList, isDig b = true := by
            rw [hTd]
            rcases f3 with f3 | f3
            · rw [hpe f3]; simp
            · unfold plainB at f3; simp only [Bool.and_eq_true] at f3
              exact fun b hb => List.all_eq_true.1 f3.2 b hb
          have HP : Hid (∀ w, Calls Tryz.prog 108 #[.string T] w fun e w' => e = .returned (.tuple #[.int .u64 (fracP tl), .int .i64 (fracL tl)]) ∧ Below w.heap.size w w') := fun w => by have := part_str T w (by omega) htd; rwa [hTd] at this
          have fp : fracP tl ≤ 65535 := fracP_le tl (by rw [← hTd]; exact htd)
          have fl : fracL tl ≤ 3 := by unfold fracL leftN; split <;> (try split) <;> (try split) <;> omega
          have hf : ∀ args w, (callFunc (119 + how.toNat) args).run Tryz.prog w = .ok (.enter (119 + how.toNat) args) w := by
            rcases kOf GH.out with h | h | h | h <;> rw [h]
            · exact enters_of Tryz.func119 (by kernel_rfl) rfl
            · exact enters_of Tryz.func120 (by kernel_rfl) rfl
            · exact enters_of Tryz.func121 (by kernel_rfl) rfl
            · exact enters_of Tryz.func122 (by kernel_rfl) rfl
          have HK := Lib.hid (kOf GH.out)
          obtain ⟨V, hV⟩ : ∃ V, numN hd = V := ⟨_, rfl⟩
          obtain ⟨P, hP⟩ : ∃ P, fracP tl = P := ⟨_, rfl⟩
          obtain ⟨L, hL⟩ : ∃ L, fracL tl = L := ⟨_, rfl⟩
          have HW := Lib.hid hcut
          rw [← hHd] at hpu
          have hHM : H.size ≤ 281474976710656 := by omega
          have HVH := Lib.hid hV; have HPH := Lib.hid hP; have HLH := Lib.hid hL
          rw [hP] at fp HP
          rw [hL] at fl HP
          by_cases hv : V ≤ 18446744073709551615
          · have HPU : Hid (∀ w, Calls Tryz.prog 107 #[.string H, .int .i64 10, .int .i64 64] w fun e w' => e = .returned (.tuple #[.int .u64 V, .nilIface]) ∧ Below w.heap.size w w') := by
              intro w
              rw [hHd, hV, if_pos hv] at hpu
              refine (Tryz.strconv_ParseUint_10_at64_ok H (by omega) V (by rw [hHd]; exact hpu) w).mono ?_
              rintro e w' ⟨rfl, rfl | rfl⟩
              · exact ⟨rfl, Below.refl _ _⟩
              · exact ⟨rfl, Go.Joins.below_bytesWorld _ _ _ _ (Nat.le_refl _)⟩
            clear hpu hV hP hL f1 f3 htd hHd hTd hHz HCP HCT PH PT hpe hcut
            by_cases hv2 : V ≤ 1073741824
            · have hR := HRR.out
              rw [HVH.out, HPH.out, HLH.out, if_pos hv2] at hR
              have hv2i : (V : Int) ≤ 1073741824 := by omega
              by_cases hL0 : L = 0
              · rw [if_pos hL0] at hR
                obtain rfl := hL0
                have e1 : ((V * 65536 + P : Nat) : Int) + 0 = (V : Int) * 65536 + (P : Int) := by omega
                rw [e1] at hR
                clear e1 hf
                by_cases hs : (V : Int) * 65536 + (P : Int) ≤ 70368744177664
                · obtain rfl : R = .ok (sgn ((V : Int) * 65536 + (P : Int)) neg) := by rw [← hR]; unfold fitR; rw [if_pos hs]
                  clear hR
                  go_wp2_with (first
                    | (go_at_call 107; refine (HPU.out _).mono ?_; rintro e w2 ⟨rfl, hb2⟩)
                    | (go_at_call 60; refine (need_ok _ _).mono ?_; rintro e w' ⟨rfl, rfl⟩)
                    | (go_at_call 108; refine (HP.out _).mono ?_; rintro e w3 ⟨rfl, hb3⟩)
                    | (go_at_call 85; refine (signed_ok _ _ _ (by omega) (by omega)).mono ?_; rintro e w' ⟨rfl, rfl⟩))
                  go_ret
                  exact Do.ok rfl ((HW.out.trans (hb2.mono HW.out.size)).trans (hb3.mono (Nat.le_trans HW.out.size hb2.size)))
                · obtain rfl : R = .error 4 := by rw [← hR]; unfold fitR; rw [if_neg hs]
                  have hs' : decide ((V : Int) * 65536 + (P : Int) ≤ 70368744177664) = false := by simp; omega
                  clear hR hs
                  go_wp2_with (first
                    | (go_at_call 107; refine (HPU.out _).mono ?_; rintro e w2 ⟨rfl, hb2⟩)
                    | (go_at_call 60; refine (need_ok _ _).mono ?_; rintro e w' ⟨rfl, rfl⟩)
                    | (go_at_call 108; refine (HP.out _).mono ?_; rintro e w3 ⟨rfl, hb3⟩)
                    | (go_at_call 85; refine (signed_no _ _ _ hs').mono ?_; rintro e w' ⟨rfl, rfl⟩))
                  exact ⟨rfl, Do.no rfl ((HW.out.trans (hb2.mono HW.out.size)).trans (hb3.mono (Nat.le_trans HW.out.size hb2.size)))⟩
              · rw [if_neg hL0] at hR
                have hL0' : ((L : Int) != 0) = true := by simpa using hL0
                obtain ⟨bb, hbb⟩ : ∃ bb, rndB (119 + how.toNat) ((L : Int) - 2) neg = bb := ⟨_, rfl⟩
                rw [hbb] at hR
                have HBB := Lib.hid hbb
                clear hbb
                cases bb
                · have e1 : ((V * 65536 + P : Nat) : Int) + b2i false = (V : Int) * 65536 + (P : Int) := by simp [b2i]
                  rw [e1] at hR
                  clear e1
                  by_cases hs : (V : Int) * 65536 + (P : Int) ≤ 70368744177664
                  · obtain rfl : R = .ok (sgn ((V : Int) * 65536 + (P : Int)) neg) := by rw [← hR]; unfold fitR; rw [if_pos hs]
                    clear hR
                    go_wp2_with (first
                      | (go_at_call 107; refine (HPU.out _).mono ?_; rintro e w2 ⟨rfl, hb2⟩)
                      | (go_at_call 60; refine (need_ok _ _).mono ?_; rintro e w' ⟨rfl, rfl⟩)
                      | (go_at_call 108; refine (HP.out _).mono ?_; rintro e w3 ⟨rfl, hb3⟩)
                      | (refine (rnd_any _ HK.out _ _ _).mono ?_; rintro e w' ⟨rfl, rfl⟩; rw [HBB.out])
                      | (go_at_call 85; refine (signed_ok _ _ _ (by omega) (by omega)).mono ?_; rintro e w' ⟨rfl, rfl⟩))
                    go_ret
                    exact Do.ok rfl ((HW.out.trans (hb2.mono HW.out.size)).trans (hb3.mono (Nat.le_trans HW.out.size hb2.size)))
                  · obtain rfl : R = .error 4 := by rw [← hR]; unfold fitR; rw [if_neg hs]
                    have hs' : decide ((V : Int) * 65536 + (P : Int) ≤ 70368744177664) = false := by simp; omega
                    clear hR hs
                    go_wp2_with (first
                      | (go_at_call 107; refine (HPU.out _).mono ?_; rintro e w2 ⟨rfl, hb2⟩)
                      | (go_at_call 60; refine (need_ok _ _).mono ?_; rintro e w' ⟨rfl, rfl⟩)
                      | (go_at_call 108; refine (HP.out _).mono ?_; rintro e w3 ⟨rfl, hb3⟩)
                      | (refine (rnd_any _ HK.out _ _ _).mono ?_; rintro e w' ⟨rfl, rfl⟩; rw [HBB.out])
                      | (go_at_call 85; refine (signed_no _ _ _ hs').mono ?_; rintro e w' ⟨rfl, rfl⟩))
                    exact ⟨rfl, Do.no rfl ((HW.out.trans (hb2.mono HW.out.size)).trans (hb3.mono (Nat.le_trans HW.out.size hb2.size)))⟩
                · have e1 : ((V * 65536 + P : Nat) : Int) + b2i true = (V : Int) * 65536 + (P : Int) + 1 := by simp [b2i]
                  rw [e1] at hR
                  clear e1
                  by_cases hs : (V : Int) * 65536 + (P : Int) + 1 ≤ 70368744177664
                  · obtain rfl : R = .ok (sgn ((V : Int) * 65536 + (P : Int) + 1) neg) := by rw [← hR]; unfold fitR; rw [if_pos hs]
                    clear hR
                    go_wp2_with (first
                      | (go_at_call 107; refine (HPU.out _).mono ?_; rintro e w2 ⟨rfl, hb2⟩)
                      | (go_at_call 60; refine (need_ok _ _).mono ?_; rintro e w' ⟨rfl, rfl⟩)
                      | (go_at_call 108; refine (HP.out _).mono ?_; rintro e w3 ⟨rfl, hb3⟩)
                      | (refine (rnd_any _ HK.out _ _ _).mono ?_; rintro e w' ⟨rfl, rfl⟩; rw [HBB.out])
                      | (go_at_call 85; refine (signed_ok _ _ _ (by omega) (by omega)).mono ?_; rintro e w' ⟨rfl, rfl⟩))
                    go_ret
                    exact Do.ok rfl ((HW.out.trans (hb2.mono HW.out.size)).trans (hb3.mono (Nat.le_trans HW.out.size hb2.size)))
                  · obtain rfl : R = .error 4 := by rw [← hR]; unfold fitR; rw [if_neg hs]
                    have hs' : decide ((V : Int) * 65536 + (P : Int) + 1 ≤ 70368744177664) = false := by simp; omega
                    clear hR hs
                    go_wp2_with (first
                      | (go_at_call 107; refine (HPU.out _).mono ?_; rintro e w2 ⟨rfl, hb2⟩)
                      | (go_at_call 60; refine (need_ok _ _).mono ?_; rintro e w' ⟨rfl, rfl⟩)
                      | (go_at_call 108; refine (HP.out _).mono ?_; rintro e w3 ⟨rfl, hb3⟩)
                      | (refine (rnd_any _ HK.out _ _ _).mono ?_; rintro e w' ⟨rfl, rfl⟩; rw [HBB.out])
                      | (go_at_call 85; refine (signed_no _ _ _ hs').mono ?_; rintro e w' ⟨rfl, rfl⟩))
                    exact ⟨rfl, Do.no rfl ((HW.out.trans (hb2.mono HW.out.size)).trans (hb3.mono (Nat.le_trans HW.out.size hb2.size)))⟩
            · have hR4 : R = .error 4 := by rw [← HRR.out, HVH.out, if_neg hv2]
              subst hR4
              have hv2' : decide ((V : Int) ≤ 1073741824) = false := by simp; omega
              clear hv hv2
              go_wp2_with (first
                | (go_at_call 107; refine (HPU.out _).mono ?_; rintro e w2 ⟨rfl, hb2⟩)
                | (go_at_call 60; refine (need_no _ _).mono ?_; rintro e w' ⟨rfl, rfl⟩))
              exact ⟨rfl, Do.no rfl (HW.out.trans (hb2.mono HW.out.size))⟩
          · have HPU : Hid (∀ w, Mem w → Calls Tryz.prog 107 #[.string H, .int .i64 10, .int .i64 64] w fun e w' => ∃ N, e = .returned (.tuple #[.int .u64 18446744073709551615, .iface 183 (.pointer (some ⟨N, 0, none⟩))]) ∧ Below w.heap.size w w') := by
              intro w hM
              obtain ⟨ev, hev, hev'⟩ := hM.err
              rw [hHd, hV, if_neg hv] at hpu
              refine (Tryz.strconv_ParseUint_10_at64_range H hHM (by rw [hHd]; exact hpu) ev w hev hev').mono ?_
              rintro e w' ⟨N, rfl, -, -, hb⟩
              exact ⟨N, rfl, hb⟩
            have hR4 : R = .error 4 := by rw [← HRR.out, HVH.out, if_neg (by omega)]
            subst hR4
            have HM2 := Lib.hid (HM.out.up hcut)
            have hne : ∀ N w, (binOp .eql 124 (.iface 183 (.pointer (some ⟨N, 0, none⟩))) .nilIface).run Tryz.prog w = .ok (.bool false) w := by intro N w; kernel_rfl
            clear hpu hV hP hL f1 f3 htd hHd hTd hHz HCP HCT PH PT hpe hcut hv
            go_wp2_with (first
              | (go_at_call 107; refine (HPU.out _ HM2.out).mono ?_; rintro e w2 ⟨N, rfl, hb2⟩)
              | (go_at_call 60; refine (need_no _ _).mono ?_; rintro e w' ⟨rfl, rfl⟩))
            exact ⟨rfl, Do.no rfl (HW.out.trans (hb2.mono HW.out.size))⟩
      · simp only [if_neg hF]
        rw [← hHd, ← hTd] at hF
        have hb' : (((H.size : Int) == 1) = true ∨ (((H.size : Int) == 1) = false)) := by cases ((H.size : Int) == 1) <;> simp
        have hcase : plainB H.data.toList = false ∨ (plainB H.data.toList = true ∧ H.size = 1 ∧ pt = true ∧ plainB T.data.toList = false) ∨
            (plainB H.data.toList = true ∧ ((H.size : Int) == 1) = false ∧ ∃ h4 : 0 < H.size, (((H[0]'h4).toNat : Int) != 48) = true ∧ pt = true ∧ plainB T.data.toList = false) ∨
            (plainB H.data.toList = true ∧ ((H.size : Int) == 1) = false ∧ ∃ h4 : 0 < H.size, (((H[0]'h4).toNat : Int) != 48) = false) := by
          cases f1 : plainB H.data.toList
          · exact .inl rfl
          · have h4 : 0 < H.size := by
              rw [Lib.size_eq]; rcases Nat.eq_zero_or_pos H.data.toList.length with h | h
              · rw [List.length_eq_zero_iff.1 h] at f1; simp [plainB] at f1
              · exact h
            have hsz := Lib.size_eq H
            have hpt : ¬ ((H.data.toList.length = 1 ∨ H.data.toList.getD 0 0 ≠ 48) ∧ (pt = false ∨ plainB T.data.toList = true)) := fun h => hF ⟨f1, h⟩
            by_cases h5 : H.size = 1
            · have h6 : ¬ (pt = false ∨ plainB T.data.toList = true) := fun h => hpt ⟨.inl (by omega), h⟩
              refine .inr (.inl ⟨rfl, h5, ?_, ?_⟩)
              · cases pt; exact absurd (.inl rfl) h6; rfl
              · cases hx : plainB T.data.toList; rfl; exact absurd (.inr hx) h6
            · have h5' : ((H.size : Int) == 1) = false := by simp; omega
              by_cases h7 : H.data.toList.getD 0 0 = 48
              · refine .inr (.inr (.inr ⟨rfl, h5', h4, ?_⟩))
                rw [← head0 H h4, h7]; rfl
              · have h6 : ¬ (pt = false ∨ plainB T.data.toList = true) := fun h => hpt ⟨.inr h7, h⟩
                refine .inr (.inr (.inl ⟨rfl, h5', h4, ?_, ?_, ?_⟩))
                · rw [← head0 H h4]
                  simp only [bne_iff_ne, ne_eq]
                  intro h8
                  exact h7 (UInt8.toNat_inj.1 (show (H.data.toList.getD 0 0).toNat = 48 by omega))
                · cases pt; exact absurd (.inl rfl) h6; rfl
                · cases hx : plainB T.data.toList; rfl; exact absurd (.inr hx) h6
        clear hF hHd hTd hHz hpe PH PT hb'
        rcases hcase with f1 | ⟨f1, f2, rfl, f3⟩ | ⟨f1, f2, h4, f5, rfl, f3⟩ | ⟨f1, f2, h4, f5⟩
        all_goals
          go_enter Tryz.func103, Tryz.ntmps103
          go_upto_region 5 with (first
            | (go_at_call 57; refine (ways_ok _ _ h0 h3).mono ?_; rintro e w' ⟨rfl, rfl⟩)
            | (go_at_call 60; refine (need_ok _ _).mono ?_; rintro e w' ⟨rfl, rfl⟩)
            | (go_at_call 104; refine (HCP.out _).mono ?_; rintro e w' ⟨rfl, rfl⟩)
            | (go_at_call 105; refine (HCT.out _ HM.out).mono ?_; rintro e w1 ⟨rfl, hb1⟩))
          go_wp2_with (first
            | (go_at_call 106; refine (plain_any _ _ (by omega)).mono ?_; rintro e w2 ⟨rfl, hb2⟩; replace hb1 := hb1.trans (hb2.mono hb1.size); clear hb2)
            | (go_at_call 60; refine (need_no _ _).mono ?_; rintro e w' ⟨rfl, rfl⟩))
          exact ⟨rfl, Do.no rfl hb1⟩
    · rw [if_neg hl]
      rw [← hz] at hl
      clear hz
      have hl' : decide ((s.size : Int) ≤ 60) = false := by simp; omega
      go_enter Tryz.func103, Tryz.ntmps103
      go_wp2_with (first
        | (go_at_call 57; refine (ways_ok _ _ h0 h3).mono ?_; rintro e w' ⟨rfl, rfl⟩)
        | (go_at_call 60; refine (need_no _ _).mono ?_; rintro e w' ⟨rfl, rfl⟩))
      exact ⟨rfl, Do.no rfl (Below.refl _ _)⟩
  · rw [if_neg hh]
    clear hz
    go_enter Tryz.func103, Tryz.ntmps103
    go_wp2_with (go_at_call 57; refine (ways_no how _ (by unfold HowOk at hh; omega)).mono ?_; rintro e w' ⟨rfl, rfl⟩)
    exact ⟨rfl, Do.no rfl (Below.refl _ _)⟩

set_option maxHeartbeats 1000000 in
theorem Read_any (s : ByteArray) (how : Int) (w : World) (hs : s.size ≤ 9223372036854775807) (hM : Mem w) :
    Calls Tryz.prog 50 #[.string s, .int .i64 how] w fun e w' => e = .returned (.tuple #[.int .i64 (valE 0 (readR s.data.toList how)), .int .i64 (errE (readR s.data.toList how))]) ∧ Below w.heap.size w w' := by
  have hmf : ∀ (fn : Fn) (first cap : Array Value) (w : World), (Instr.makeFunc fn first cap).run Tryz.prog w = .ok (.func fn first cap) w := fun _ _ _ _ => rfl
  have HC : Hid (∀ W, Below ((w.alloc (.cells #[.string s] 9)).alloc (.cells #[.int .i64 how] 3)).heap.size ((w.alloc (.cells #[.string s] 9)).alloc (.cells #[.int .i64 how] 3)) W → Calls Tryz.prog 103 #[.pointer (some ⟨w.heap.size + 1, 0, none⟩), .pointer (some ⟨w.heap.size, 0, none⟩)] W (Do W ((readR s.data.toList how).map (.int .i64 ·)))) := by
    intro W hW
    have hc := (bcell hW).1
    simp only [World.size_alloc] at hc
    have c0 : W.cell? ⟨w.heap.size, 0, none⟩ = some (.string s) := by rw [hc _ _ (by omega)]; simp [go_sem]
    have c1 : W.cell? ⟨w.heap.size + 1, 0, none⟩ = some (.int .i64 how) := by rw [hc _ _ (by omega)]; simp [go_sem]
    exact cl103 _ _ s how W c1 c0 hs (hM.up ((((Below.refl _ _).alloc (Nat.le_refl _) _).alloc (by simp) _).trans (hW.mono (by simp; omega))))
  obtain ⟨r, hr⟩ : ∃ r, readR s.data.toList how = r := ⟨_, rfl⟩
  rw [hr] at HC ⊢
  clear hr hM
  go_enter Tryz.func50, Tryz.ntmps50
  go_wp2_with (go_at_call 54; refine (triedFix 103 _ _ _ (enters_of Tryz.func103 (by kernel_rfl) rfl) HC.out).mono ?_; rintro e w1 ⟨rfl, hb⟩)
  go_ret2
  exact ⟨rfl, (((Below.refl _ _).alloc (Nat.le_refl _) _).alloc (by simp) _).trans (hb.mono (by simp; omega))⟩
end Go.Proofs.YthkhhjfldkebcaaGreatDoor
