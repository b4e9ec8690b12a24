/- Contract: the document's Number. -/
import Derived.Test.YtmhlialdbggmdaaGreatDoorW
namespace Go.Proofs.YtmhlialdbggmdaaGreatDoor
open Go.RowKit Go.Proofs Go.Shelf

theorem conv_one (W : World) (c : Nat) (h : c < 256) : (convert 64 9 (.slice (some ⟨W.heap.size, 0, none⟩) 1 1)).run Tryz.prog (W.alloc (.cells #[.int .u8 (c : Int)] 5)) = .ok (.string ⟨#[c.toUInt8]⟩) (W.alloc (.cells #[.int .u8 (c : Int)] 5)) := by
  have e : (c.toUInt8).toNat = c := Lib.toUInt8_toNat h
  have := run_convert_bytes_back (P := Tryz.prog) (W.alloc (.cells #[.int .u8 (c : Int)] 5)) 64 9 5 ⟨W.heap.size, 0, none⟩ 1 [c.toUInt8] Tryz.underlying64 Tryz.underlying5 Tryz.underlying9 (fun j hj => by
    obtain rfl : j = 0 := by simpa using hj
    rw [Lib.add_plain]
    simp [World.cell?_alloc_new, e])
  exact this

theorem dd_step {k m c : Nat} (hm : k / 10 = m) (hc : 48 + k % 10 = c) : Lib.decDigits k = (if m = 0 then [] else Lib.decDigits m) ++ [UInt8.ofNat c] := by
  rw [← hc, ← hm, Lib.decDigits]
  by_cases h1 : k < 10
  · rw [dif_pos h1, if_pos (by omega), Nat.mod_eq_of_lt h1]; rfl
  · rw [dif_neg h1, if_neg (by omega)]

set_option maxRecDepth 100000 in
set_option maxHeartbeats 1000000 in
theorem Number_pos (n : Nat) (w : World) (h : n < 9223372036854775808) :
    Calls Tryz.prog 48 #[.int .i64 n] w (Back (.string ⟨(Lib.decDigits n).toArray⟩) w) := by
  have HC := Lib.hid conv_one
  go_enter Tryz.func48, Tryz.ntmps48
  go_wp2_with fail
  go_loopw [0, 3] (fun nv sv wr => ∃ (k : Nat) (S : ByteArray), nv = .int .i64 k ∧ sv = .string S ∧ k < 9223372036854775808 ∧ Hid (Lib.decDigits n = Lib.decDigits k ++ S.data.toList) ∧ Below w.heap.size w wr) (fun nv _ _ => (intOf nv).toNat)
  case atStart => exact ⟨n, _, rfl, rfl, h, by show _ = _; simp, Below.refl _ _⟩
  case round =>
    obtain ⟨k, S, rfl, rfl, hkb, hS, hB⟩ := hrel
    have HS := Lib.hid hS
    clear hS
    obtain ⟨m, hm⟩ : ∃ m, k / 10 = m := ⟨_, rfl⟩
    obtain ⟨d, hd⟩ : ∃ d, k % 10 = d := ⟨_, rfl⟩
    obtain ⟨c, hc⟩ : ∃ c, 48 + d = c := ⟨_, rfl⟩
    have hstep := dd_step hm (c := c) (by rw [hd]; exact hc)
    have HST := Lib.hid hstep
    have g1 : (k : Int) % 10 = (d : Int) := by omega
    have g2 : (k : Int) / 10 = (m : Int) := by omega
    have g3 : 48 + (d : Int) = (c : Int) := by omega
    have hcv := HC.out wr c (by omega)
    have hd9 : (d : Int) ≤ 9 := by omega
    have hc9 : (c : Int) ≤ 57 := by omega
    have hsz : S.size ≤ 20 := by
      have := congrArg List.length HS.out
      rw [Lib.decDigits_length, List.length_append] at this
      have h20 := Lib.nDigits_le20 n (by omega)
      have : S.data.toList.length = S.size := Array.length_toList
      omega
    have hmb : m < 9223372036854775808 := by omega
    have gmx : max (d : Int) (-(d : Int)) = (d : Int) := by omega
    have hmk : k ≠ 0 → m < k := by omega
    have HMK := Lib.hid hmk
    have HM0 : Hid (m ≠ 0 → k ≠ 0) := fun h e => by subst e; omega
    clear hstep hd hc hm hmk HC
    by_cases h0 : m = 0
    · subst h0
      rw [if_pos rfl] at HST
      go_wp2_with fail
      go_ret
      refine ⟨?_, hB.alloc hB.size _⟩
      rw [HS.out, HST.out]
      refine congrArg (fun s => Ending.returned (.string s)) ?_
      apply ByteArray.ext; apply Array.toList_inj.1; simp
    · have h0' : ((m : Int) == 0) = false := by rw [beq_eq_false_iff_ne]; omega
      rw [if_neg h0] at HST
      have HN : Hid (Lib.decDigits n = Lib.decDigits m ++ (UInt8.ofNat c :: S.data.toList)) := by
        show _ = _; rw [HS.out, HST.out]; simp
      have HLT := Lib.hid (HMK.out (HM0.out h0))
      clear h0
      go_wp2_with fail
      go_roundw
      case rel => exact ⟨m, _, rfl, rfl, hmb, by show _ = _; rw [HN.out]; simp, hB.alloc hB.size _⟩
      case measure => have := HLT.out; simp [intOf]; omega
set_option maxRecDepth 100000 in
set_option maxHeartbeats 1000000 in
theorem Number_neg (n : Nat) (w : World) (h : n ≤ 9223372036854775808) (h1 : 1 ≤ n) :
    Calls Tryz.prog 48 #[.int .i64 (-(n : Int))] w (Back (.string ⟨(45 :: Lib.decDigits n).toArray⟩) w) := by
  have HC := Lib.hid conv_one
  have hneg : -(n : Int) < 0 := by omega
  go_enter Tryz.func48, Tryz.ntmps48
  go_wp2_with fail
  go_loopw [0, 3] (fun nv sv wr => ∃ (k : Nat) (S : ByteArray), nv = .int .i64 (-(k : Int)) ∧ sv = .string S ∧ k ≤ 9223372036854775808 ∧ Hid (Lib.decDigits n = Lib.decDigits k ++ S.data.toList) ∧ Below w.heap.size w wr) (fun nv _ _ => (-(intOf nv)).toNat)
  case atStart => exact ⟨n, _, rfl, rfl, h, by show _ = _; simp, Below.refl _ _⟩
  case round =>
    obtain ⟨k, S, rfl, rfl, hkb, hS, hB⟩ := hrel
    have HS := Lib.hid hS
    clear hS
    obtain ⟨m, hm⟩ : ∃ m, k / 10 = m := ⟨_, rfl⟩
    obtain ⟨d, hd⟩ : ∃ d, k % 10 = d := ⟨_, rfl⟩
    obtain ⟨c, hc⟩ : ∃ c, 48 + d = c := ⟨_, rfl⟩
    have hstep := dd_step hm (c := c) (by rw [hd]; exact hc)
    have HST := Lib.hid hstep
    have g1 : (-(k : Int)).tmod 10 = -(d : Int) := by rw [Int.neg_tmod, Int.tmod_eq_emod_of_nonneg (by omega)]; omega
    have g2 : (-(k : Int)).tdiv 10 = -(m : Int) := by rw [Int.neg_tdiv, Int.tdiv_eq_ediv_of_nonneg (by omega)]; omega
    have g3 : 48 + (d : Int) = (c : Int) := by omega
    have hcv := HC.out wr c (by omega)
    have hd9 : (d : Int) ≤ 9 := by omega
    have hc9 : (c : Int) ≤ 57 := by omega
    have hsz : S.size ≤ 20 := by
      have := congrArg List.length HS.out
      rw [Lib.decDigits_length, List.length_append] at this
      have h20 := Lib.nDigits_le20 n (by omega)
      have : S.data.toList.length = S.size := Array.length_toList
      omega
    have hmb : m ≤ 9223372036854775808 := by omega
    have gmx : max (-(d : Int)) (d : Int) = (d : Int) := by omega
    have hmk : k ≠ 0 → m < k := by omega
    have HMK := Lib.hid hmk
    have HM0 : Hid (m ≠ 0 → k ≠ 0) := fun h e => by subst e; omega
    clear hstep hd hc hm hmk HC
    by_cases h0 : m = 0
    · subst h0
      rw [if_pos rfl] at HST
      go_wp2_with fail
      go_ret
      refine ⟨?_, hB.alloc hB.size _⟩
      rw [HS.out, HST.out]
      refine congrArg (fun s => Ending.returned (.string s)) ?_
      apply ByteArray.ext; apply Array.toList_inj.1; simp
    · have h0' : (-(m : Int) == 0) = false := by rw [beq_eq_false_iff_ne]; omega
      rw [if_neg h0] at HST
      have HN : Hid (Lib.decDigits n = Lib.decDigits m ++ (UInt8.ofNat c :: S.data.toList)) := by
        show _ = _; rw [HS.out, HST.out]; simp
      have HLT := Lib.hid (HMK.out (HM0.out h0))
      clear h0
      go_wp2_with fail
      go_roundw
      case rel => exact ⟨m, _, rfl, rfl, hmb, by show _ = _; rw [HN.out]; simp, hB.alloc hB.size _⟩
      case measure => have := HLT.out; simp [intOf]; omega
theorem Number_any (n : Int) (h0 : -9223372036854775808 ≤ n) (h1 : n ≤ 9223372036854775807) (w : World) :
    Calls Tryz.prog 48 #[.int .i64 n] w (Back (.string ⟨(Lib.itoa n).toArray⟩) w) := by
  by_cases hn : n < 0
  · obtain ⟨k, hk⟩ : ∃ k : Nat, n = -(k : Int) := ⟨n.natAbs, by omega⟩
    subst hk
    have e : Lib.itoa (-(k : Int)) = 45 :: Lib.decDigits k := by unfold Lib.itoa; rw [if_pos hn, show (-(k : Int)).natAbs = k by omega]
    rw [e]; exact Number_neg k w (by omega) (by omega)
  · obtain ⟨k, rfl⟩ := Int.eq_ofNat_of_zero_le (Int.not_lt.1 hn)
    have e : Lib.itoa (k : Int) = Lib.decDigits k := by unfold Lib.itoa; rw [if_neg hn, Int.toNat_natCast]
    rw [e]; exact Number_pos k w (by omega)
end Go.Proofs.YtmhlialdbggmdaaGreatDoor
