/- Contract: the document's Mirror. -/
import Derived.Test.YtmhlialdbggmdaaGreatDoorMi
namespace Go.Proofs.YtmhlialdbggmdaaGreatDoor
open Go.RowKit Go.Proofs Go.Shelf

theorem news_lit (W : World) (t : St) : ∀ j u, (stC t)[j]? = some u → (W.alloc (.cells #[.int .i64 t.t, .int .i64 t.n, .int .i64 t.x, .int .i64 t.y] 53)).cell? ((⟨W.heap.size, 0, none⟩ : Addr).add j) = some u := news_stC W t
theorem stC_one1 {t : St} {u : Value} (h : u ∈ stC t) : u.oneCell' = true := by
  simp [stC] at h
  rcases h with rfl | rfl | rfl | rfl <;> rfl

set_option maxRecDepth 100000 in
set_option maxHeartbeats 4000000 in
theorem refMirror (l : List St) (v : Value) (w : World) (hrow : RowS w v l) :
    Calls Tryz.prog 38 #[v] w fun e w' => ((chkB l = false ∧ e = .returned (.tuple #[.slice none 0 0, .int .i64 2])) ∨ (chkB l = true ∧ ∃ u, e = .returned (.tuple #[u, .int .i64 0]) ∧ OwnS w.heap.size w' u (l.map mirS))) ∧ Below w.heap.size w w' := by
  obtain ⟨i0, hi, hz0, hz1, hz2⟩ := info_parts Tryz.info53
  have H1 := Lib.hid (fun w h => refCheck l v w h)
  have HR := Lib.hid hrow
  obtain ⟨A, cap, rfl, hlc, ⟨hcap, -⟩, hcells⟩ := hrow
  have HC := Lib.hid hcells
  clear hcells
  cases hc : chkB l
  · rw [hc] at H1
    go_enter Tryz.func38, Tryz.ntmps38
    go_wp2_with (go_at_call 29; refine (H1.out _ HR.out).mono ?_; rintro e w1 ⟨rfl, hb1⟩)
    go_ret2
    exact ⟨.inl ⟨by first | rfl | trivial, rfl⟩, hb1⟩
  · rw [hc] at H1
    have HF := Lib.hid (chk_facts hc)
    have h16 := HF.out.1
    clear hc
    go_enter Tryz.func38, Tryz.ntmps38
    go_wp2_with (go_at_call 29; refine (H1.out _ HR.out).mono ?_; rintro e w1 ⟨rfl, hb1⟩; have B := Lib.hid hb1; clear hb1)
    have O0 : Hid (w1.ownsRow w.heap.size 53 4 (.slice none 0 0) 0 (((l.take 0).map mirS).flatMap stC)) := World.ownsRow_nil _ _ _ _
    go_loopw [4, 5] (fun u iv wr => ∃ k : Nat, k ≤ l.length ∧ iv = .int .i64 k ∧ Hid (wr.ownsRow w.heap.size 53 4 u k (((l.take k).map mirS).flatMap stC)) ∧ Hid (Below w.heap.size w wr)) (fun _ iv _ => l.length - (intOf iv).toNat)
    case atStart => exact ⟨0, by omega, rfl, O0, B⟩
    case round =>
      obtain ⟨k, hk, rfl, ho, hb⟩ := hrel
      have HK := Lib.hid ho.out
      have HB := Lib.hid hb.out
      clear ho hb
      by_cases hlt : k < l.length
      · have hlt' : (k : Int) < (l.length : Int) := by omega
        obtain ⟨b, o, rfl, hc⟩ := HC.out (by intro h; subst h; simp at hlt)
        have hA := (hc k hlt).up HB.out
        have hok := HF.out.2 k hlt
        have htk : (l.take (k + 1)).map mirS = (l.take k).map mirS ++ [mirS (l[k]'hlt)] := by rw [List.take_succ_eq_append_getElem hlt, List.map_append]; rfl
        obtain ⟨s, hs⟩ : ∃ s, l[k]'hlt = s := ⟨_, rfl⟩
        rw [hs] at hA hok htk
        obtain ⟨a0, a1, a2, a3⟩ := hA
        have HT := Lib.hid htk
        have hx : -6553600000 ≤ s.x ∧ s.x ≤ 6553600000 := hok.2.1.1
        obtain ⟨hx1, hx2⟩ := hx
        clear htk hs hc hok
        obtain ⟨s1, s2, s3, s4⟩ := s
        simp only at a0 a1 a2 a3 hx1 hx2
        have hneg : IntKind.i64.wrap (-s3) = -s3 := IntWalk.i64_in _ (by omega)
        go_upto_region 9 with fail
        have K2 : Hid (((wr.alloc (.cells #[.int .i64 s1, .int .i64 s2, .int .i64 (-s3), .int .i64 s4] 53)).alloc (.cells #[.int .i64 s1, .int .i64 s2, .int .i64 (-s3), .int .i64 s4] 53)).ownsRow w.heap.size 53 4 u4 k (((l.take k).map mirS).flatMap stC)) := (HK.out.alloc _).alloc _
        have hz := HB.out.size
        have NW := Lib.hid (news_lit (wr.alloc (.cells #[.int .i64 s1, .int .i64 s2, .int .i64 (-s3), .int .i64 s4] 53)) ⟨s1, s2, -s3, s4⟩)
        have hzz : (wr.alloc (.cells #[.int .i64 s1, .int .i64 s2, .int .i64 (-s3), .int .i64 s4] 53)).heap.size = wr.heap.size + 1 := by simp
        rw [hzz] at NW
        have B2 : Hid (Below w.heap.size w ((wr.alloc (.cells #[.int .i64 s1, .int .i64 s2, .int .i64 (-s3), .int .i64 s4] 53)).alloc (.cells #[.int .i64 s1, .int .i64 s2, .int .i64 (-s3), .int .i64 s4] 53))) := (HB.out.alloc hz _).alloc (by simp; omega) _
        clear a0 a1 a2 a3 hneg hzz
        go_wp2_with (at_builtin; refine wpList_append_own _ rfl _ _ 30 rfl w.heap.size 53 i0 _ 4 32 Tryz.underlying30 hi hz0 hz1 hz2 rfl (by decide) _ _ _ rfl K2.out ⟨wr.heap.size + 1, 0, none⟩ 1 1 (stC ⟨s1, s2, -s3, s4⟩) rfl rfl NW.out (fun u h => stC_one1 h) (by unfold maxLen; omega) (by omega) (by simp; omega) ?_; intro v' w5 hown hgrow hnn; have B5 := Lib.hid (B2.out.grown hgrow (by simp; omega) (fun j hj => (ownBlock_ge K2.out hj).1)); have HO5 := Lib.hid hown; clear hown hgrow hnn)
        go_roundw
        case rel =>
          refine ⟨k + 1, by omega, by go_num, ?_, B5.out⟩
          rw [HT.out, List.flatMap_append]
          have h5 := HO5.out
          have e1 : ([mirS ⟨s1, s2, s3, s4⟩] : List St).flatMap stC = stC ⟨s1, s2, -s3, s4⟩ := by simp [mirS]
          show World.ownsRow _ _ _ _ _ _ _
          rw [e1]; exact h5
        case measure => simp [intOf]; omega
      · obtain rfl : k = l.length := by omega
        go_wp2_with fail
        refine bodyPost_ret (results_tmp2 rfl _ _ _) rfl ?_
        refine ⟨.inr ⟨by first | rfl | trivial, _, rfl, ?_⟩, HB.out⟩
        have h1 := HK.out
        rw [List.take_length] at h1
        have e2 : (l.map mirS).length = l.length := by simp
        show World.ownsRow _ _ _ _ _ _ _
        rw [e2]; exact h1
end Go.Proofs.YtmhlialdbggmdaaGreatDoor
