/- Contract: the document's Overlap. -/
import Derived.Test.YtomcpgdpjpjioaaE
namespace Go.Proofs.Ytomcpgdpjpjioaa
open Go.RowKit Go.Proofs Go.Shelf

theorem touZ_neg (x y : Int) : touZ x y < 0 ↔ touZ x y = -1 := by
  unfold touZ; split
  · omega
  · split
    · omega
    · split <;> omega
theorem pairF_at {α : Type} {h : α → α → Bool} {l : List α} {i k : Nat} (hi : i < k) (hk : k < l.length) (h1 : h (l[i]'(by omega)) (l[k]'hk) = true)
    (h2 : ∀ j (hj : j < l.length), i < j → j < k → h (l[i]'(by omega)) (l[j]'hj) = false) : pairF h (l.drop i) i = ((i : Int), (k : Int)) := by
  have hl : (l.drop (i + 1)).length = l.length - (i + 1) := List.length_drop
  have e : fidx (h (l[i]'(by omega))) (l.drop (i + 1)) = ((k - (i + 1) : Nat) : Int) := by
    refine fidx_at (by omega) ?_ ?_
    · rw [List.getElem_drop]
      have e : i + 1 + (k - (i + 1)) = k := by omega
      simp only [e]; exact h1
    · intro j hj
      rw [List.getElem_drop]
      exact h2 (i + 1 + j) (by omega) (by omega) (by omega)
  rw [pairF_step (by omega), e, if_pos (by omega)]
  congr 1
  omega
theorem pairF_pass {α : Type} {h : α → α → Bool} {l : List α} {i : Nat} (hi : i < l.length) (h2 : ∀ j (hj : j < l.length), i < j → h (l[i]'hi) (l[j]'hj) = false) : pairF h (l.drop i) i = pairF h (l.drop (i + 1)) (i + 1) := by
  have hl : (l.drop (i + 1)).length = l.length - (i + 1) := List.length_drop
  have e : fidx (h (l[i]'hi)) (l.drop (i + 1)) = -1 := by
    refine fidx_none fun j hj => ?_
    rw [List.getElem_drop]
    exact h2 (i + 1 + j) (by omega) (by omega)
  rw [pairF_step hi, e, if_neg (by omega)]

set_option maxHeartbeats 4000000 in
theorem refOverlap (l : List St) (v : Value) (w : World) (hrow : RowS w v l) : Calls Try.prog 54 #[v] w (Back (.tuple #[.int .i64 (pairF ovB l 0).1, .int .i64 (pairF ovB l 0).2]) w) := by
  obtain ⟨A, cap, rfl, hlc, ⟨hcap, -⟩, hcells⟩ := hrow
  have HR := Lib.hid hcells
  obtain ⟨R1, hR1⟩ : ∃ R, (pairF ovB l 0).1 = R := ⟨_, rfl⟩
  obtain ⟨R2, hR2⟩ : ∃ R, (pairF ovB l 0).2 = R := ⟨_, rfl⟩
  have HRR : Hid (pairF ovB l 0 = (R1, R2)) := by show _ = _; rw [← hR1, ← hR2]
  rw [hR1, hR2]
  clear hcells hR1 hR2
  go_enter Try.func54, Try.ntmps54
  go_wp2_with fail
  go_loopw [4] (fun iv wr => ∃ i : Nat, i ≤ l.length ∧ iv = .int .i64 i ∧ Hid (pairF ovB (l.drop i) i = (R1, R2)) ∧ Below w.heap.size w wr) (fun iv _ => l.length - (intOf iv).toNat)
  case atStart => exact ⟨0, by omega, rfl, HRR, Below.refl _ _⟩
  case round =>
    obtain ⟨i, hi, rfl, hP, hb⟩ := hrel
    have HP := Lib.hid hP.out
    have HB := Lib.hid hb
    clear hP hb
    rename_i wo
    by_cases hlt : i < l.length
    · have hlt' : (i : Int) < (l.length : Int) := by omega
      obtain ⟨b, o, rfl, hc⟩ := HR.out (by intro h; subst h; simp at hlt)
      have HCC := Lib.hid hc
      obtain ⟨s, hs⟩ : ∃ s, l[i]'hlt = s := ⟨_, rfl⟩
      have HS := Lib.hid hs
      have hA := hc i hlt
      rw [hs] at hA
      have HA := Lib.hid hA
      clear hs hc hA
      obtain ⟨s1, s2, s3, s4⟩ := s
      go_wp2_with fail
      go_loopw [5] (fun kv wr => ∃ k : Nat, i < k ∧ k ≤ l.length ∧ kv = .int .i64 k ∧ Hid (∀ j (hj : j < l.length), i < j → j < k → ovB ⟨s1, s2, s3, s4⟩ (l[j]'hj) = false) ∧ Below w.heap.size w wr) (fun kv _ => l.length - (intOf kv).toNat)
      case atStart => exact ⟨i + 1, by omega, by omega, by go_num, fun j hj h1 h2 => by omega, HB.out⟩
      case round =>
        obtain ⟨k, hik, hk, rfl, hno, hb2⟩ := hrel
        have HN := Lib.hid hno.out
        have HB2 := Lib.hid hb2
        clear hno hb2
        by_cases hkl : k < l.length
        · have hkl' : (k : Int) < (l.length : Int) := by omega
          obtain ⟨z, hz⟩ : ∃ z, l[k]'hkl = z := ⟨_, rfl⟩
          have hB := HCC.out k hkl
          rw [hz] at hB
          have HZ := Lib.hid hz
          obtain ⟨z1, z2, z3, z4⟩ := z
          have q2 := HA.out.2.2.1; have q3 := HA.out.2.2.2
          have r2 := hB.2.2.1; have r3 := hB.2.2.2
          have X2 : ∀ X : BW wr, X.to.cell? ⟨b, o + i * 4 + 2, none⟩ = some (.int .i64 s3) := fun X => upc (upc q2 HB2.out) X.same
          have X3 : ∀ X : BW wr, X.to.cell? ⟨b, o + i * 4 + 3, none⟩ = some (.int .i64 s4) := fun X => upc (upc q3 HB2.out) X.same
          have Y2 : ∀ X : BW wr, X.to.cell? ⟨b, o + k * 4 + 2, none⟩ = some (.int .i64 z3) := fun X => upc (upc r2 HB2.out) X.same
          have Y3 : ∀ X : BW wr, X.to.cell? ⟨b, o + k * 4 + 3, none⟩ = some (.int .i64 z4) := fun X => upc (upc r3 HB2.out) X.same
          have H1 := Lib.hid (fun w => refCheckSpot s3 s4 w)
          have H2 := Lib.hid (fun w => refCheckSpot z3 z4 w)
          clear hz hB q2 q3 r2 r3
          have hstep : ovB ⟨s1, s2, s3, s4⟩ ⟨z1, z2, z3, z4⟩ = false → Hid (∀ j (hj : j < l.length), i < j → j < k + 1 → ovB ⟨s1, s2, s3, s4⟩ (l[j]'hj) = false) := by
            intro h j hj h1 h2
            by_cases e : j = k
            · subst e; rw [HZ.out]; exact h
            · exact HN.out j hj h1 (by omega)
          by_cases h1 : OkS s3 s4
          · rw [decide_eq_true h1] at H1
            by_cases h2 : OkS z3 z4
            · rw [decide_eq_true h2] at H2
              have H3 := Lib.hid (fun w => refcontact s3 s4 z3 z4 w h1 h2)
              obtain ⟨u, hu⟩ : ∃ u, touZ (s3 - z3) (s4 - z4) = u := ⟨_, rfl⟩
              have hneg := touZ_neg (s3 - z3) (s4 - z4)
              rw [hu] at H3 hneg
              by_cases hu0 : u < 0
              · have hov : ovB ⟨s1, s2, s3, s4⟩ ⟨z1, z2, z3, z4⟩ = true := decide_eq_true ⟨h1, h2, by show touZ (s3 - z3) (s4 - z4) = -1; rw [hu]; exact hneg.1 hu0⟩
                have hfin := pairF_at (h := ovB) hik hkl (by rw [HS.out, HZ.out]; exact hov) (fun j hj h1 h2 => by rw [HS.out]; exact HN.out j hj h1 h2)
                rw [HP.out] at hfin
                injection hfin with e1 e2
                subst e1 e2
                clear h1 h2 hu hneg hstep hov
                go_wp2_with fail
                refine wp_region_quietB (by kernel_rfl) (by kernel_rfl) ?_
                repeat (go_big_quiet_step ((first
                  | (go_at_call 52; first | (with_reducible exact quietB (H1.out _)) | (with_reducible exact quietB (H2.out _)))
                  | (go_at_call 73; exact quietB (H3.out _)))))
                refine wpQuiet_nil ?_
                rintro _ ⟨⟨wy, hby⟩, rfl⟩
                go_wp2_with fail
                go_ret2
                exact ⟨rfl, HB2.out.trans (hby.mono HB2.out.size)⟩
              · have hov := hstep (decide_eq_false (fun h => hu0 (hneg.2 (by rw [← hu]; exact h.2.2))))
                clear h1 h2 hu hneg hstep
                go_wp2_with fail
                refine wp_region_quietB (by kernel_rfl) (by kernel_rfl) ?_
                repeat (go_big_quiet_step ((first
                  | (go_at_call 52; first | (with_reducible exact quietB (H1.out _)) | (with_reducible exact quietB (H2.out _)))
                  | (go_at_call 73; exact quietB (H3.out _)))))
                refine wpQuiet_nil ?_
                rintro _ ⟨⟨wy, hby⟩, rfl⟩
                go_wp2_with fail
                go_roundw
                case rel => exact ⟨k + 1, by omega, by omega, by go_num, hov, HB2.out.trans (hby.mono HB2.out.size)⟩
                case measure => simp [intOf]; omega
            · rw [decide_eq_false h2] at H2
              have hov := hstep (decide_eq_false (fun h => h2 h.2.1))
              clear h1 h2 hstep
              go_wp2_with fail
              refine wp_region_quietB (by kernel_rfl) (by kernel_rfl) ?_
              repeat (go_big_quiet_step ((first
                | (go_at_call 52; first | (with_reducible exact quietB (H1.out _)) | (with_reducible exact quietB (H2.out _))))))
              refine wpQuiet_nil ?_
              rintro _ ⟨⟨wy, hby⟩, rfl⟩
              go_wp2_with fail
              go_roundw
              case rel => exact ⟨k + 1, by omega, by omega, by go_num, hov, HB2.out.trans (hby.mono HB2.out.size)⟩
              case measure => simp [intOf]; omega
          · rw [decide_eq_false h1] at H1
            have hov := hstep (decide_eq_false (fun h => h1 h.1))
            clear h1 hstep
            go_wp2_with fail
            refine wp_region_quietB (by kernel_rfl) (by kernel_rfl) ?_
            repeat (go_big_quiet_step ((first
              | (go_at_call 52; first | (with_reducible exact quietB (H1.out _)) | (with_reducible exact quietB (H2.out _))))))
            refine wpQuiet_nil ?_
            rintro _ ⟨⟨wy, hby⟩, rfl⟩
            go_wp2_with fail
            go_roundw
            case rel => exact ⟨k + 1, by omega, by omega, by go_num, hov, HB2.out.trans (hby.mono HB2.out.size)⟩
            case measure => simp [intOf]; omega
        · obtain rfl : k = l.length := by omega
          have hpass := pairF_pass (h := ovB) hlt (fun j hj h => by rw [HS.out]; exact HN.out j hj h hj)
          have HPN : Hid (pairF ovB (l.drop (i + 1)) (i + 1) = (R1, R2)) := by show _ = _; rw [← hpass]; exact HP.out
          clear hpass
          go_wp2_with fail
          go_roundw
          case rel => exact ⟨i + 1, by omega, by go_num, HPN, HB2.out⟩
          case measure => simp [intOf]; omega
    · obtain rfl : i = l.length := by omega
      have e : R1 = -1 ∧ R2 = -1 := by
        have h1 := HP.out
        rw [List.drop_length] at h1
        injection h1 with h1 h2
        exact ⟨h1.symm, h2.symm⟩
      obtain ⟨rfl, rfl⟩ := e
      go_wp2_with fail
      go_ret2
      exact ⟨rfl, HB.out⟩
end Go.Proofs.Ytomcpgdpjpjioaa
