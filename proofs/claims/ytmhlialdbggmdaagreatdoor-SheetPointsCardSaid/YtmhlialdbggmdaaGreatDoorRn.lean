/- Contract: the document's Nearest. -/
import Derived.Test.YtmhlialdbggmdaaGreatDoorIs
import Derived.Deep.Cut
namespace Go.Proofs.YtmhlialdbggmdaaGreatDoor
open Go.RowKit Go.Proofs Go.Shelf

/-- The nearest of the first k stones that are in the house and not in out; -1: none. -/
def bstN (l : List St) (out : List Nat) : Nat → Int
  | 0 => -1
  | k + 1 => if (k ∈ hIdx l ∧ k ∉ out) ∧ (bstN l out k < 0 ∨ sqAt l k < sqAt l (bstN l out k).toNat) then (k : Int) else bstN l out k
theorem bstN_bd (l : List St) (out : List Nat) : ∀ k, -1 ≤ bstN l out k ∧ bstN l out k < k ∧ (0 ≤ bstN l out k → (bstN l out k).toNat ∈ hIdx l ∧ (bstN l out k).toNat ∉ out)
  | 0 => by simp [bstN]
  | k + 1 => by
    have ih := bstN_bd l out k
    unfold bstN
    split
    · rename_i h; exact ⟨by omega, by omega, fun _ => by simpa using h.1⟩
    · exact ⟨ih.1, by omega, ih.2.2⟩
theorem bstN_min (l : List St) (out : List Nat) : ∀ k i, i < k → i ∈ hIdx l → i ∉ out → 0 ≤ bstN l out k ∧ (bstN l out k = i ∨ lx (sqAt l) (bstN l out k).toNat i)
  | 0, _, h, _, _ => by omega
  | k + 1, i, h, h1, h2 => by
    have hb := bstN_bd l out k
    by_cases hik : i = k
    · subst hik
      unfold bstN
      split
      · exact ⟨by omega, .inl rfl⟩
      · rename_i hn
        have hn' : ¬ (bstN l out i < 0 ∨ sqAt l i < sqAt l (bstN l out i).toNat) := fun h => hn ⟨⟨h1, h2⟩, h⟩
        have h0 : 0 ≤ bstN l out i := by omega
        refine ⟨h0, .inr ?_⟩
        unfold lx
        have : sqAt l (bstN l out i).toNat ≤ sqAt l i := by omega
        omega
    · obtain ⟨h3, h4⟩ := bstN_min l out k i (by omega) h1 h2
      unfold bstN
      split
      · rename_i hn
        refine ⟨by omega, .inr ?_⟩
        have h5 : sqAt l k < sqAt l (bstN l out k).toNat := by omega
        unfold lx at h4 ⊢
        rcases h4 with h4 | h4
        · rw [h4] at h5; simp at h5 ⊢; exact .inl h5
        · simp; omega
      · exact ⟨h3, h4⟩
theorem bstN_next {l : List St} {d : List Nat} (hd : IsNear l d) {k : Nat} (hk : k < d.length) : bstN l (d.take k) l.length = (d[k]'hk : Nat) := by
  have hmem : d[k]'hk ∈ hIdx l := hd.1.mem_iff.1 (List.getElem_mem _)
  have hlt : d[k]'hk < l.length := by
    unfold hIdx at hmem
    obtain ⟨y, hy, he⟩ := List.mem_map.1 hmem
    rw [← he]; exact (hsK_lt hy).1
  have hpw := List.pairwise_iff_getElem.1 hd.2
  have hirr : ∀ a, ¬ lx (sqAt l) a a := fun a h => by unfold lx at h; omega
  have hnot : d[k]'hk ∉ d.take k := by
    intro h
    obtain ⟨j, hj, he⟩ := List.getElem_of_mem h
    rw [List.length_take] at hj
    rw [List.getElem_take] at he
    have := hpw j k (by omega) hk (by omega)
    rw [he] at this
    exact hirr _ this
  obtain ⟨h0, h1⟩ := bstN_min l (d.take k) l.length _ hlt hmem hnot
  rcases h1 with h1 | h1
  · exact h1
  · exfalso
    obtain ⟨-, -, hb⟩ := bstN_bd l (d.take k) l.length
    obtain ⟨hb1, hb2⟩ := hb h0
    have hbd := hd.1.mem_iff.2 hb1
    obtain ⟨j, hj, he⟩ := List.getElem_of_mem hbd
    rw [← he] at h1 hb2
    rcases Nat.lt_or_ge j k with hjk | hjk
    · exact hb2 (by
        have hj2 : j < (d.take k).length := by rw [List.length_take]; omega
        have : (d.take k)[j]'hj2 = d[j]'hj := by rw [List.getElem_take]
        rw [← this]; exact List.getElem_mem _)
    · by_cases hjk' : j = k
      · subst hjk'; exact hirr _ h1
      · have := hpw k j hk hj (by omega)
        exact hirr _ (lx_trans h1 this)
theorem bstN_end {l : List St} {d : List Nat} (hd : IsNear l d) : bstN l d l.length < 0 := by
  obtain ⟨h1, h2, h3⟩ := bstN_bd l d l.length
  rcases Int.lt_or_le (bstN l d l.length) 0 with h | h
  · exact h
  · obtain ⟨h4, h5⟩ := h3 h
    exact absurd (hd.1.mem_iff.2 h4) h5
theorem mem_hIdx {l : List St} {i : Nat} (hi : i < l.length) : i ∈ hIdx l ↔ InH (l[i]'hi).x (l[i]'hi).y := by
  unfold hIdx hsK
  rw [List.map_filterMap]
  simp only [List.mem_filterMap, List.mem_range]
  constructor
  · rintro ⟨j, hj, he⟩
    rw [List.getElem?_eq_getElem hj] at he
    simp only at he
    split at he
    · simp at he; subst he; assumption
    · simp at he
  · intro h
    exact ⟨i, hi, by rw [List.getElem?_eq_getElem hi]; simp [h]⟩

theorem OwnN.up {base : Nat} {w w' : World} {v : Value} {d : List Nat} (h : OwnN base w v d) (hb : Below w.heap.size w w') : OwnN base w' v d := by
  obtain ⟨A, cap, h1, h2, h3, h4, h5⟩ := h
  refine ⟨A, cap, h1, h2, h3, h4, fun hd => ?_⟩
  obtain ⟨g, h6, h7, h8⟩ := h5 hd
  exact ⟨g, h6, h7, h8.up hb⟩
theorem ownN_of_row {base k c : Nat} {A : Option Addr} {W : World} {d : List Nat} (h : W.ownsRow base 3 1 (.slice A k c) k (d.map pv)) : OwnN base W (.slice A k c) d := by
  have hk : k = d.length := by have := h.1; rw [List.length_map] at this; omega
  subst hk
  rcases h.2 with ⟨h1, h0⟩ | ⟨g, cap, cur, h1, h2, h3, h4, h5, h6⟩
  · injection h1 with e1 e2 e3
    subst e1 e3
    exact ⟨none, 0, rfl, by omega, Nat.zero_le _, fun _ => rfl, fun hd => absurd (List.length_eq_zero_iff.1 h0) hd⟩
  · injection h1 with e1 _ e3
    subst e1 e3
    obtain ⟨hI, hg, -, -, -⟩ := RowI.of_own h
    exact ⟨_, _, rfl, h4, h5, (fun h => by cases h), fun _ => ⟨g, rfl, hg, hI⟩⟩
def lenV : Value → Nat | .slice _ n _ => n | _ => 0

set_option maxRecDepth 100000 in
set_option maxHeartbeats 4000000 in
theorem refNearest (l : List St) (v : Value) (w : World) (hrow : RowS w v l) (d : List Nat) (hd : chkB l = true → IsNear l d) :
    Calls Tryz.prog 36 #[v] w fun e w' => ((chkB l = false ∧ e = .returned (.tuple #[.slice none 0 0, .int .i64 2])) ∨ (chkB l = true ∧ ∃ u, e = .returned (.tuple #[u, .int .i64 0]) ∧ OwnN w.heap.size w' u d)) ∧ Below w.heap.size w w' := by
  obtain ⟨i0, hi, hz0, hz1, hz2⟩ := info_parts Tryz.info3
  have H1 := Lib.hid (fun w h => refCheck l v w h)
  have HR := Lib.hid hrow
  obtain ⟨A, cap, rfl, hlc, ⟨hcap, -⟩, hcells⟩ := hrow
  have HC := Lib.hid hcells
  clear hcells
  cases hc : chkB l
  · rw [hc] at H1
    clear hd
    go_enter Tryz.func36, Tryz.ntmps36
    go_wp2_with (go_at_call 29; refine (H1.out _ HR.out).mono ?_; rintro e w1 ⟨rfl, hb1⟩)
    go_ret2
    exact ⟨.inl ⟨by first | rfl | trivial, rfl⟩, hb1⟩
  · rw [hc] at H1
    have HF := Lib.hid (chk_facts hc)
    have h16 := HF.out.1
    have HD := Lib.hid (hd hc)
    have hdl : d.length ≤ 16 := by
      rw [HD.out.1.length_eq]; unfold hIdx; rw [List.length_map]
      have := hsK_len l l.length; omega
    clear hc hd
    go_enter Tryz.func36, Tryz.ntmps36
    go_wp2_with (go_at_call 29; refine (H1.out _ HR.out).mono ?_; rintro e w1 ⟨rfl, hb1⟩; have B := Lib.hid hb1; clear hb1)
    have O0 : Hid (w1.ownsRow w.heap.size 3 1 (.slice none 0 0) 0 ((d.take 0).map pv)) := World.ownsRow_nil _ _ _ _
    go_loopw [4] (fun u wr => ∃ k : Nat, k ≤ d.length ∧ (∃ A c, u = .slice A k c) ∧ Hid (wr.ownsRow w.heap.size 3 1 u k ((d.take k).map pv)) ∧ Hid (Below w.heap.size w wr)) (fun u _ => d.length + 1 - lenV u)
    case atStart => exact ⟨0, by omega, ⟨_, _, rfl⟩, O0, B⟩
    case round =>
      obtain ⟨k, hk, ⟨A4, c4, rfl⟩, ho, hb⟩ := hrel
      have HK := Lib.hid ho.out
      have HB := Lib.hid hb.out
      clear ho hb
      have HN : Hid (OwnN w.heap.size wr (.slice A4 k c4) (d.take k)) := ownN_of_row HK.out
      obtain ⟨wo, hwo⟩ : ∃ wo, wo = wr := ⟨_, rfl⟩
      subst hwo
      go_wp2_with fail
      go_loopw [5, 6] (fun b iv wr => ∃ i : Nat, i ≤ l.length ∧ iv = .int .i64 i ∧ b = .int .i64 (bstN l (d.take k) i) ∧ Hid (Below wo.heap.size wo wr)) (fun _ iv _ => l.length - (intOf iv).toNat)
      case atStart => exact ⟨0, by omega, rfl, rfl, Below.refl _ _⟩
      case round =>
        obtain ⟨i, hil, rfl, rfl, hbi⟩ := hrel
        have HI := Lib.hid hbi.out
        clear hbi
        have hbb := bstN_bd l (d.take k) i
        by_cases hlt : i < l.length
        · have hlt' : (i : Int) < (l.length : Int) := by omega
          obtain ⟨b, o, rfl, hc⟩ := HC.out (by intro h; subst h; simp at hlt)
          have HA := Lib.hid ((hc i hlt).up (HB.out.trans (HI.out.mono HB.out.size)))
          have hst := HF.out.2 i hlt
          have hmem := mem_hIdx hlt
          have hsq := sqAt_get hlt
          have hstep : bstN l (d.take k) (i + 1) = if (i ∈ hIdx l ∧ i ∉ d.take k) ∧ (bstN l (d.take k) i < 0 ∨ sqAt l i < sqAt l (bstN l (d.take k) i).toNat) then (i : Int) else bstN l (d.take k) i := rfl
          obtain ⟨s, hs⟩ : ∃ s, l[i]'hlt = s := ⟨_, rfl⟩
          rw [hs] at HA hst hmem hsq
          obtain ⟨q, hq⟩ : ∃ q, bstN l (d.take k) i = q := ⟨_, rfl⟩
          rw [hq] at hbb hstep ⊢
          have HCC := Lib.hid hc
          obtain ⟨a0, a1, a2, a3⟩ := HA.out
          obtain ⟨hb1, hb2, -⟩ := hbb
          have HST := Lib.hid hstep
          have HSQ := Lib.hid hsq
          have q1 : ∀ X : BW wr, X.to.cell? ⟨b, o + i * 4 + 2, none⟩ = some (.int .i64 s.x) := fun X => upc a2 X.same
          have q2 : ∀ X : BW wr, X.to.cell? ⟨b, o + i * 4 + 3, none⟩ = some (.int .i64 s.y) := fun X => upc a3 X.same
          have H32 : Hid (∀ w, Calls Tryz.prog 32 #[.agg #[.int .i64 s.x, .int .i64 s.y]] w (Back (.bool (decide (InH s.x s.y))) w)) := fun w => refInHouse s.x s.y w hst.2.1
          have H33 : Hid (∀ w, Calls Tryz.prog 33 #[.agg #[.int .i64 s.x, .int .i64 s.y]] w (Back (.int .i64 (sqAt l i)) w)) := fun w => by rw [HSQ.out]; exact refSquare s.x s.y w (sqd_bound hst.2.2)
          have H70 : Hid (∀ W, Below wr.heap.size wr W → Calls Tryz.prog 70 #[.slice A4 k c4, .int .i64 (i : Nat)] W (Back (.bool (decide (i ∈ d.take k))) W)) := fun W hW => by
            refine (has_any (d.take k) i w.heap.size _ W ((HN.out.up HI.out).up hW) (by rw [List.length_take]; omega)).mono ?_
            rintro e w' ⟨rfl, rfl⟩
            exact ⟨rfl, Below.refl _ _⟩
          obtain ⟨p, hp⟩ : ∃ p, sqAt l i = p := ⟨_, rfl⟩
          rw [hp] at H33
          have HP := Lib.hid hp
          clear hs hst hsq hq hstep HA a0 a1 a2 a3 hp hc
          by_cases h1 : InH s.x s.y
          · rw [decide_eq_true h1] at H32
            by_cases h2 : i ∈ d.take k
            · rw [decide_eq_true h2] at H70
              have hres : Hid (bstN l (d.take k) (i + 1) = q) := by show _ = _; rw [HST.out, if_neg (fun h => h.1.2 h2)]
              have H33b := H33
              clear hmem h1 h2 HST
              go_wp2_with fail
              refine wp_region_quietB (by kernel_rfl) (by kernel_rfl) ?_
              repeat (go_big_quiet_step ((first
                | (go_at_call 32; exact quietB (H32.out _))
                | (go_at_call 70; exact quietB (H70.out _ (Below.mono (BW.same _) (Nat.le_refl _))))
                | (go_at_call 33; first | (with_reducible exact quietB (H33.out _)) | (with_reducible exact quietB (H33b.out _))))))
              refine wpQuiet_nil ?_
              rintro wy ⟨⟨wz, hby⟩, hwz⟩
              change wy = wz at hwz
              subst hwz
              have HY : Hid (Below wo.heap.size wo wy) := HI.out.trans (hby.mono HI.out.size)
              clear q1 q2 hby
              go_wp2_with fail
              go_roundw
              case rel => exact ⟨i + 1, by omega, by go_num, by rw [hres.out], HY.out⟩
              case measure => simp [intOf]; omega
            · rw [decide_eq_false h2] at H70
              by_cases h3 : q < 0
              · have hres : Hid (bstN l (d.take k) (i + 1) = (i : Int)) := by show _ = _; rw [HST.out, if_pos ⟨⟨hmem.2 h1, h2⟩, .inl h3⟩]
                have H33b := H33
                have h3' : decide (q < 0) = true := by simpa using h3
                clear hmem h1 h2 HST
                go_wp2_with fail
                refine wp_region_quietB (by kernel_rfl) (by kernel_rfl) ?_
                repeat (go_big_quiet_step ((first
                  | (go_at_call 32; exact quietB (H32.out _))
                  | (go_at_call 70; exact quietB (H70.out _ (Below.mono (BW.same _) (Nat.le_refl _))))
                  | (go_at_call 33; first | (with_reducible exact quietB (H33.out _)) | (with_reducible exact quietB (H33b.out _))))))
                refine wpQuiet_nil ?_
                rintro wy ⟨⟨wz, hby⟩, hwz⟩
                change wy = wz at hwz
                subst hwz
                have HY : Hid (Below wo.heap.size wo wy) := HI.out.trans (hby.mono HI.out.size)
                clear q1 q2 hby
                go_wp2_with fail
                go_roundw
                case rel => exact ⟨i + 1, by omega, by go_num, by rw [hres.out], HY.out⟩
                case measure => simp [intOf]; omega
              · obtain ⟨m, rfl⟩ := Int.eq_ofNat_of_zero_le (show 0 ≤ q by omega)
                have hml : m < l.length := by omega
                have hml' : (m : Int) < (l.length : Int) := by omega
                have h3' : decide ((m : Int) < 0) = false := by simp
                have hM := ((HCC.out m hml).up (HB.out.trans (HI.out.mono HB.out.size)))
                have hsm := HF.out.2 m hml
                have hqm := sqAt_get hml
                obtain ⟨s', hs'⟩ : ∃ s', l[m]'hml = s' := ⟨_, rfl⟩
                rw [hs'] at hM hsm hqm
                obtain ⟨-, -, m2, m3⟩ := hM
                have q3 : ∀ X : BW wr, X.to.cell? ⟨b, o + m * 4 + 2, none⟩ = some (.int .i64 s'.x) := fun X => upc m2 X.same
                have q4 : ∀ X : BW wr, X.to.cell? ⟨b, o + m * 4 + 3, none⟩ = some (.int .i64 s'.y) := fun X => upc m3 X.same
                have HQM := Lib.hid hqm
                have H33b : Hid (∀ w, Calls Tryz.prog 33 #[.agg #[.int .i64 s'.x, .int .i64 s'.y]] w (Back (.int .i64 (sqAt l m)) w)) := fun w => by rw [HQM.out]; exact refSquare s'.x s'.y w (sqd_bound hsm.2.2)
                obtain ⟨p', hp'⟩ : ∃ p', sqAt l m = p' := ⟨_, rfl⟩
                rw [hp'] at H33b
                have HP' := Lib.hid hp'
                clear m2 m3 hsm hqm hs' hp'
                by_cases h4 : p < p'
                · have hres : Hid (bstN l (d.take k) (i + 1) = (i : Int)) := by show _ = _; rw [HST.out, if_pos ⟨⟨hmem.2 h1, h2⟩, .inr (by rw [Int.toNat_natCast, HP.out, HP'.out]; exact h4)⟩]
                  have h4' : decide (p < p') = true := by simpa using h4
                  clear hmem h1 h2 HST h3
                  go_wp2_with fail
                  refine wp_region_quietB (by kernel_rfl) (by kernel_rfl) ?_
                  repeat (go_big_quiet_step ((first
                    | (go_at_call 32; exact quietB (H32.out _))
                    | (go_at_call 70; exact quietB (H70.out _ (Below.mono (BW.same _) (Nat.le_refl _))))
                    | (go_at_call 33; first | (with_reducible exact quietB (H33.out _)) | (with_reducible exact quietB (H33b.out _))))))
                  refine wpQuiet_nil ?_
                  rintro wy ⟨⟨wz, hby⟩, hwz⟩
                  change wy = wz at hwz
                  subst hwz
                  have HY : Hid (Below wo.heap.size wo wy) := HI.out.trans (hby.mono HI.out.size)
                  clear q1 q2 q3 q4 hby
                  go_wp2_with fail
                  go_roundw
                  case rel => exact ⟨i + 1, by omega, by go_num, by rw [hres.out], HY.out⟩
                  case measure => simp [intOf]; omega
                · have hres : Hid (bstN l (d.take k) (i + 1) = (m : Int)) := by
                    show _ = _; rw [HST.out, if_neg (fun h => by
                      rcases h.2 with h5 | h5
                      · omega
                      · rw [Int.toNat_natCast, HP.out, HP'.out] at h5; exact h4 h5)]
                  have h4' : decide (p < p') = false := by simpa using h4
                  clear hmem h1 h2 HST h3
                  go_wp2_with fail
                  refine wp_region_quietB (by kernel_rfl) (by kernel_rfl) ?_
                  repeat (go_big_quiet_step ((first
                    | (go_at_call 32; exact quietB (H32.out _))
                    | (go_at_call 70; exact quietB (H70.out _ (Below.mono (BW.same _) (Nat.le_refl _))))
                    | (go_at_call 33; first | (with_reducible exact quietB (H33.out _)) | (with_reducible exact quietB (H33b.out _))))))
                  refine wpQuiet_nil ?_
                  rintro wy ⟨⟨wz, hby⟩, hwz⟩
                  change wy = wz at hwz
                  subst hwz
                  have HY : Hid (Below wo.heap.size wo wy) := HI.out.trans (hby.mono HI.out.size)
                  clear q1 q2 q3 q4 hby
                  go_wp2_with fail
                  go_roundw
                  case rel => exact ⟨i + 1, by omega, by go_num, by rw [hres.out], HY.out⟩
                  case measure => simp [intOf]; omega
          · rw [decide_eq_false h1] at H32
            have hres : Hid (bstN l (d.take k) (i + 1) = q) := by show _ = _; rw [HST.out, if_neg (fun h => h1 (hmem.1 h.1.1))]
            have H33b := H33
            clear hmem h1 HST
            go_wp2_with fail
            refine wp_region_quietB (by kernel_rfl) (by kernel_rfl) ?_
            repeat (go_big_quiet_step ((first
              | (go_at_call 32; exact quietB (H32.out _))
              | (go_at_call 70; exact quietB (H70.out _ (Below.mono (BW.same _) (Nat.le_refl _))))
              | (go_at_call 33; first | (with_reducible exact quietB (H33.out _)) | (with_reducible exact quietB (H33b.out _))))))
            refine wpQuiet_nil ?_
            rintro wy ⟨⟨wz, hby⟩, hwz⟩
            change wy = wz at hwz
            subst hwz
            have HY : Hid (Below wo.heap.size wo wy) := HI.out.trans (hby.mono HI.out.size)
            clear q1 q2 hby
            go_wp2_with fail
            go_roundw
            case rel => exact ⟨i + 1, by omega, by go_num, by rw [hres.out], HY.out⟩
            case measure => simp [intOf]; omega
        · obtain rfl : i = l.length := by omega
          by_cases hkd : k < d.length
          · have hnx := bstN_next HD.out hkd
            obtain ⟨x, hx⟩ : ∃ x, d[k]'hkd = x := ⟨_, rfl⟩
            have htk : (d.take (k + 1)).map pv = (d.take k).map pv ++ [pv x] := by rw [List.take_succ_eq_append_getElem hkd, List.map_append, hx]; rfl
            rw [hx] at hnx
            have HT := Lib.hid htk
            rw [hnx]
            have hza := HB.out.size
            have hzb := HI.out.size
            have K2 : Hid ((wr.alloc (.cells #[.int .i64 (x : Nat)] 3)).ownsRow w.heap.size 3 1 (.slice A4 k c4) k ((d.take k).map pv)) := by
              have h1 : wr.ownsRow w.heap.size 3 1 (.slice A4 k c4) k ((d.take k).map pv) := by
                obtain ⟨q1, q2⟩ := HK.out
                refine ⟨q1, q2.imp_right ?_⟩
                rintro ⟨g, cap, cur, q3, q4, q5, q6⟩
                exact ⟨g, cap, cur, q3, q4, boxed_cells_up q5 HI.out, q6⟩
              exact h1.alloc _
            have B2 : Hid (Below w.heap.size w (wr.alloc (.cells #[.int .i64 (x : Nat)] 3))) := (HB.out.trans (HI.out.mono hza)).alloc (by omega) _
            clear hx htk hnx hbb
            go_wp2_with (at_builtin; refine wpList_append_own _ rfl _ _ 57 rfl w.heap.size 3 i0 _ 1 8 Tryz.underlying57 hi hz0 hz1 hz2 rfl (by decide) _ _ _ rfl K2.out ⟨wr.heap.size, 0, none⟩ 1 1 [pv x] rfl rfl (cell_one_new _ _ _) (by simp [Value.oneCell']) (by unfold maxLen; omega) (by omega) (by simp; omega) ?_; intro v' w5 hown hgrow hnn; obtain ⟨g', cap', rfl⟩ := ownsRow_succ hown; have B5 := Lib.hid (B2.out.grown hgrow (by simp; omega) (fun j hj => (ownBlock_ge K2.out hj).1)); have HO5 := Lib.hid hown; clear hown hgrow hnn)
            go_roundw
            case rel =>
              refine ⟨k + 1, by omega, ⟨_, _, rfl⟩, ?_, B5.out⟩
              have h5 := HO5.out
              show World.ownsRow _ _ _ _ _ _ _
              rw [HT.out]; exact h5
            case measure => simp [lenV]; omega
          · obtain rfl : k = d.length := by omega
            have hend := bstN_end HD.out
            rw [List.take_length] at hbb ⊢
            obtain ⟨q, hq⟩ : ∃ q, bstN l d l.length = q := ⟨_, rfl⟩
            rw [hq] at hend hbb ⊢
            have hN := HN.out.up HI.out
            rw [List.take_length] at hN
            have HN2 := Lib.hid hN
            clear hq hN hbb
            go_wp2_with fail
            refine bodyPost_ret (results_tmp2 rfl _ _ _) rfl ?_
            exact ⟨.inr ⟨by first | rfl | trivial, _, rfl, HN2.out⟩, HB.out.trans (HI.out.mono HB.out.size)⟩
end Go.Proofs.YtmhlialdbggmdaaGreatDoor
