/- Contract: the document's Print. -/
import Derived.Test.YtmhlialdbggmdaaGreatDoorNu
namespace Go.Proofs.YtmhlialdbggmdaaGreatDoor
open Go.RowKit Go.Proofs Go.Shelf

theorem number_any (n : Int) (S : ByteArray) (hS : (⟨(Lib.itoa n).toArray⟩ : ByteArray) = S) (h0 : -9223372036854775808 ≤ n) (h1 : n ≤ 9223372036854775807) (w : World) :
    Calls Tryz.prog 48 #[.int .i64 n] w (Back (.string S) w) := by rw [← hS]; exact Number_any n h0 h1 w

set_option maxRecDepth 100000 in
set_option maxHeartbeats 4000000 in
theorem refPrint (l : List St) (v : Value) (w : World) (hrow : RowS w v l) :
    Calls Tryz.prog 14 #[v] w fun e w' => e = .returned (if chkB l = true then .tuple #[.string ⟨(printL l).toArray⟩, .int .i64 0] else .tuple #[.string ⟨#[]⟩, .int .i64 2]) ∧ Below w.heap.size w w' := by
  have H1 := Lib.hid (fun w h => refCheck l v w h)
  have HR0 := Lib.hid hrow
  obtain ⟨A, cap, rfl, hlc, ⟨hcap, -⟩, hcells⟩ := hrow
  have HR := Lib.hid hcells
  clear hcells
  cases hc : chkB l
  · rw [hc] at H1
    go_enter Tryz.func14, Tryz.ntmps14
    go_wp2_with (go_at_call 29; refine (H1.out _ HR0.out).mono ?_; rintro e w1 ⟨rfl, hb1⟩)
    go_ret2
    exact ⟨rfl, hb1⟩
  · rw [hc] at H1
    have HF := Lib.hid (chk_facts hc)
    have h16 := HF.out.1
    rw [if_pos rfl]
    clear hc
    go_enter Tryz.func14, Tryz.ntmps14
    go_wp2_with (go_at_call 29; refine (H1.out _ HR0.out).mono ?_; rintro e w1 ⟨rfl, hb1⟩; have B := Lib.hid hb1; clear hb1)
    go_loopw [4, 5] (fun sv iv wr => ∃ (k : Nat) (S : ByteArray), k ≤ l.length ∧ iv = .int .i64 k ∧ sv = .string S ∧ Hid (S.data.toList = printL (l.take k)) ∧ Hid (Below w.heap.size w wr)) (fun _ iv _ => l.length - (intOf iv).toNat)
    case atStart => exact ⟨0, _, by omega, rfl, rfl, rfl, B⟩
    case round =>
      obtain ⟨k, S, hk, rfl, rfl, hS, hb⟩ := hrel
      have HS := Lib.hid hS.out
      have HB := Lib.hid hb.out
      clear hS hb
      by_cases hlt : k < l.length
      · have hlt' : (k : Int) < (l.length : Int) := by omega
        obtain ⟨b, o, rfl, hc⟩ := HR.out (by intro h; subst h; simp at hlt)
        have hok := HF.out.2 k hlt
        have hpl := print_len HF.out.2 k hk
        have hsn := print_snoc hlt
        have hzS : S.size ≤ 1072 := by rw [Lib.size_eq, HS.out]; omega
        obtain ⟨s, hs⟩ : ∃ s, l[k]'hlt = s := ⟨_, rfl⟩
        have hA := (hc k hlt).up HB.out
        rw [hs] at hA hok hsn
        obtain ⟨a0, a1, a2, a3⟩ := hA
        have HOK := Lib.hid hok
        have HSN := Lib.hid hsn
        have hrl := rest_len hok
        clear hc hs hok hsn hpl
        obtain ⟨s1, s2, s3, s4⟩ := s
        simp only at a0 a1 a2 a3
        have ht : s1 = 0 ∨ s1 = 1 := by have := HOK.out.1.1; simp only at this; omega
        have hn1 : IntKind.i64.wrap (s2 + 1) = s2 + 1 := IntWalk.i64_in _ (by have := HOK.out.1.2; simp only at this; omega)
        have hn2 : wrap64 (s2 + 1) = s2 + 1 := by have := HOK.out.1.2; simp only at this; unfold wrap64; omega
        have HN1 := Lib.hid hn1
        have HN2 := Lib.hid hn2
        obtain ⟨SA, hSA⟩ : ∃ S : ByteArray, (⟨(Lib.itoa (s2 + 1)).toArray⟩ : ByteArray) = S := ⟨_, rfl⟩
        obtain ⟨SB, hSB⟩ : ∃ S : ByteArray, (⟨(Lib.itoa s3).toArray⟩ : ByteArray) = S := ⟨_, rfl⟩
        obtain ⟨SC, hSC⟩ : ∃ S : ByteArray, (⟨(Lib.itoa s4).toArray⟩ : ByteArray) = S := ⟨_, rfl⟩
        have f2 := HOK.out.1.2
        have f3 := HOK.out.2.1
        unfold OkS at f3
        simp only at f2 f3
        have bA := Lib.itoa_length_le (s2 + 1) (by omega) (by omega)
        have bB := Lib.itoa_length_le s3 (by omega) (by omega)
        have bC := Lib.itoa_length_le s4 (by omega) (by omega)
        have zA : SA.size ≤ 21 := by rw [← hSA]; show (Lib.itoa (s2 + 1)).toArray.size ≤ 21; rw [List.size_toArray]; exact bA
        have zB : SB.size ≤ 21 := by rw [← hSB]; show (Lib.itoa s3).toArray.size ≤ 21; rw [List.size_toArray]; exact bB
        have zC : SC.size ≤ 21 := by rw [← hSC]; show (Lib.itoa s4).toArray.size ≤ 21; rw [List.size_toArray]; exact bC
        have HA1 : Hid (∀ W', Calls Tryz.prog 48 #[.int .i64 (s2 + 1)] W' (Back (.string SA) W')) := fun W' => number_any _ _ hSA (by omega) (by omega) W'
        have HB2 : Hid (∀ W', Calls Tryz.prog 48 #[.int .i64 s3] W' (Back (.string SB) W')) := fun W' => number_any _ _ hSB (by omega) (by omega) W'
        have HC2 : Hid (∀ W', Calls Tryz.prog 48 #[.int .i64 s4] W' (Back (.string SC) W')) := fun W' => number_any _ _ hSC (by omega) (by omega) W'
        have HLIST : Hid (restL ⟨s1, s2, s3, s4⟩ = (((((SA.data.toList ++ [32]) ++ SB.data.toList) ++ [32]) ++ SC.data.toList) ++ [10])) := by show _ = _; rw [← hSA, ← hSB, ← hSC]; rfl
        clear hSA hSB hSC bA bB bC hn1 hn2 f2 f3
        rcases ht with rfl | rfl
        all_goals
          go_upto_region 10 with fail
          have q1 := fun X : BW wr => upc a1 X.same
          have q2 := fun X : BW wr => upc a2 X.same
          have q3 := fun X : BW wr => upc a3 X.same
          clear a0 a1 a2 a3
          refine wp_region_quietB (by kernel_rfl) (by kernel_rfl) ?_
          repeat (go_big_quiet_step ((first
            | (go_at_call 48; (try rw [HN1.out]); (try rw [HN2.out]); first | with_reducible exact quietB (HA1.out _) | with_reducible exact quietB (HB2.out _) | with_reducible exact quietB (HC2.out _)))))
          refine wpQuiet_nil ?_
          rintro wy ⟨⟨wz, hby⟩, hwz⟩
          change wy = wz at hwz
          subst hwz
          have Xy := Lib.hid (HB.out.trans (hby.mono HB.out.size))
          clear q1 q2 q3 hby
          go_wp2_with fail
          go_roundw
          case rel =>
            refine ⟨k + 1, _, by omega, by go_num, rfl, ?_, Xy.out⟩
            show _ = _
            rw [HSN.out, ← HS.out]
            unfold lineL
            rw [HLIST.out]
            simp
          case measure => simp [intOf]; omega
      · obtain rfl : k = l.length := by omega
        have h1 := HS.out
        rw [List.take_length] at h1
        have e : (⟨(printL l).toArray⟩ : ByteArray) = S := by rw [← h1]
        have HE := Lib.hid e
        clear e h1
        go_wp2_with fail
        go_ret2
        exact ⟨by rw [HE.out]; rfl, HB.out⟩
end Go.Proofs.YtmhlialdbggmdaaGreatDoor
