/- Contract: Check. -/
import Derived.Test.YtomcpgdpjpjioaaM
namespace Go.Proofs.Ytomcpgdpjpjioaa
open Go.RowKit Go.Proofs Go.Shelf

/-- The names of stones, the last one first. -/
def namesR (l : List St) : List (Int × Int) := (l.map fun s => (s.t, s.n)).reverse
theorem namesR_snoc (l : List St) (s : St) : namesR (l ++ [s]) = (s.t, s.n) :: namesR l := by simp [namesR]
theorem namesR_len (l : List St) : (namesR l).length = l.length := by simp [namesR]
theorem names_all (l : List St) (s : St) : l.all (fun a => !nameB a s) = !decide ((s.t, s.n) ∈ namesR l) := by
  rw [Bool.eq_iff_iff]
  simp only [List.all_eq_true, Bool.not_eq_true', decide_eq_false_iff_not, namesR, List.mem_reverse, List.mem_map, not_exists, not_and]
  constructor
  · intro h a ha e
    have := h a ha
    injection e with e1 e2
    simp [nameB, e1, e2] at this
  · intro h a ha
    have := h a ha
    cases hn : nameB a s
    · rfl
    · exfalso
      simp only [nameB, Bool.and_eq_true, beq_iff_eq] at hn
      exact this (by rw [hn.1, hn.2])

set_option maxHeartbeats 4000000 in
theorem Check_any (l : List St) (v : Value) (w : World) (hrow : RowS w v l) : Calls Try.prog 32 #[v] w (Back (.bool (chkB l)) w) := by
  have HROW := Lib.hid hrow
  have hmm := @run_makeMap Try.prog
  obtain ⟨A, cap, rfl, hlc, ⟨hcap, -⟩, hcells⟩ := hrow
  have HR := Lib.hid hcells
  obtain ⟨C, hC⟩ : ∃ C, chkB l = C := ⟨_, rfl⟩
  rw [hC]
  unfold chkB at hC
  by_cases hl : l.length ≤ 16
  · have hl' : ¬ (16 : Int) < (l.length : Int) := by omega
    rw [decide_eq_true hl, Bool.true_and] at hC
    obtain ⟨G, hG⟩ : ∃ G, goodF [] l = G := ⟨_, rfl⟩
    have HG : Hid (goodF (l.take 0) (l.drop 0) = G) := hG
    obtain ⟨P1, hP1⟩ : ∃ P, (pairF ovB l 0).1 = P := ⟨_, rfl⟩
    obtain ⟨P2, hP2⟩ : ∃ P, (pairF ovB l 0).2 = P := ⟨_, rfl⟩
    have HO : Hid (∀ w v, RowS w v l → Calls Try.prog 58 #[v] w (Back (.tuple #[.int .i64 P1, .int .i64 P2]) w)) := fun w v h => by rw [← hP1, ← hP2]; exact Overlap_any l v w h
    rw [hG, hP1] at hC
    have HCC := Lib.hid hC
    clear hC hG hP1 hP2 hcells
    go_enter Try.func32, Try.ntmps32
    go_wp2_with fail
    go_loopw [15] (fun iv wr => ∃ i : Nat, i ≤ l.length ∧ iv = .int .i64 i ∧ Hid (goodF (l.take i) (l.drop i) = G) ∧ Hid (SetM wr w.heap.size (namesR (l.take i))) ∧ Below w.heap.size w wr) (fun iv _ => l.length - (intOf iv).toNat)
    case atStart => exact ⟨0, by omega, rfl, HG, SetM.made w, (Below.refl _ _).alloc (Nat.le_refl _) _⟩
    case round =>
      obtain ⟨i, hi, rfl, hP, hS, hb⟩ := hrel
      have HP := Lib.hid hP.out
      have HB := Lib.hid hb
      have SM := Lib.hid hS.out
      clear hP hb hS
      rename World => wo
      by_cases hlt : i < l.length
      · have hlt' : (i : Int) < (l.length : Int) := by omega
        obtain ⟨b, o, rfl, hc⟩ := HR.out (by intro h; subst h; simp at hlt)
        obtain ⟨s, hs⟩ : ∃ s, l[i]'hlt = s := ⟨_, rfl⟩
        have hA := hc i hlt
        rw [hs] at hA
        obtain ⟨a0, a1, a2, a3⟩ := hA.up HB.out
        have hst := goodF_step hlt
        have hta : l.take (i + 1) = l.take i ++ [s] := by rw [List.take_succ_eq_append_getElem hlt, hs]
        rw [hs, names_all] at hst
        have HST := Lib.hid hst
        have HTA := Lib.hid hta
        clear hs hc hA hst hta
        obtain ⟨s1, s2, s3, s4⟩ := s
        have H1 := Lib.hid (fun w => withinInt s1 0 1 w)
        have H2 := Lib.hid (fun w => withinInt s2 0 7 w)
        have H3 := Lib.hid (fun w => CheckSpot_any s3 s4 w)
        obtain ⟨W0, hW0⟩ : ∃ W, (wo.alloc (Sto ⟨s1, s2, s3, s4⟩)).alloc (.cells #[.int .i64 s1, .int .i64 s2] 87) = W := ⟨_, rfl⟩
        have hz := HB.out.size
        have X0 : Hid (Below w.heap.size w W0) := by show Below _ _ _; rw [← hW0]; exact (HB.out.alloc HB.out.size _).alloc (by simp; omega) _
        have K0 : Hid (At4 W0 wo.heap.size 0 ⟨s1, s2, s3, s4⟩) := by show At4 _ _ _ _; rw [← hW0]; exact (At4.new wo ⟨s1, s2, s3, s4⟩).alloc _
        have S0 : Hid (SetM W0 w.heap.size (namesR (l.take i))) := by show SetM _ _ _; rw [← hW0]; exact (SM.out.alloc _).alloc _
        have y0 : W0.cell? ⟨wo.heap.size + 1, 0, none⟩ = some (.int .i64 s1) := by rw [← hW0]; simp [go_sem]
        have y1 : W0.cell? ⟨wo.heap.size + 1, 1, none⟩ = some (.int .i64 s2) := by rw [← hW0]; simp [go_sem]
        obtain ⟨b0, b1, b2, b3⟩ := K0.out
        clear SM
        have hbad : ¬ okSt ⟨s1, s2, s3, s4⟩ → C = false := by
          intro h
          have h1 := HP.out
          rw [HST.out, decide_eq_false h, Bool.false_and, Bool.false_and] at h1
          rw [← HCC.out, ← h1, Bool.false_and]
        by_cases h1 : 0 ≤ s1 ∧ s1 ≤ 1
        · rw [decide_eq_true h1] at H1
          by_cases h2 : 0 ≤ s2 ∧ s2 ≤ 7
          · rw [decide_eq_true h2] at H2
            by_cases h3 : OkS s3 s4
            · rw [decide_eq_true h3] at H3
              have H4 := Lib.hid (fun w => zone_any s3 s4 w h3)
              obtain ⟨z, hz⟩ : ∃ z, zoneZ s3 s4 = z := ⟨_, rfl⟩
              rw [hz] at H4
              by_cases h4 : Play s3 s4
              · have hok : okSt ⟨s1, s2, s3, s4⟩ := ⟨⟨h1, h2⟩, h3, h4⟩
                have HOK := Lib.hid hok
                have hz0 : (z == 0) = false := by
                  have : ¬ z = 0 := fun h => (zone_away s3 s4).1 (by rw [hz, h]) h4
                  simpa using this
                have hx1 : W64 s1 := by unfold W64; omega
                have hx2 : W64 s2 := by unfold W64; omega
                have HX1 := Lib.hid hx1; have HX2 := Lib.hid hx2
                have hlen : Hid ((namesR (l.take i)).length < 1000) := by show _ < _; rw [namesR_len, List.length_take]; omega
                obtain ⟨r, hr⟩ : ∃ r, decide ((s1, s2) ∈ namesR (l.take i)) = r := ⟨_, rfl⟩
                have HRR := Lib.hid hr
                clear h1 h2 h3 h4 hbad hz hok hx1 hx2 hr
                cases r
                · go_wp2_with (first
                    | (go_at_call 55; first | ((with_reducible refine (H1.out _).mono ?_); rintro e w' ⟨rfl, rfl⟩) | ((with_reducible refine (H2.out _).mono ?_); rintro e w' ⟨rfl, rfl⟩))
                    | (go_at_call 56; refine (H3.out _).mono ?_; rintro e w1 ⟨rfl, hb1⟩; replace X0 := Lib.hid (X0.out.trans (hb1.mono X0.out.size)); replace K0 := Lib.hid (K0.out.up hb1); replace S0 := Lib.hid (S0.out.up hb1); replace y0 := upc y0 hb1; replace y1 := upc y1 hb1; clear hb1; obtain ⟨b0, b1, b2, b3⟩ := K0.out)
                    | (go_at_call 57; refine (H4.out _).mono ?_; rintro e w2 ⟨rfl, hb2⟩; replace X0 := Lib.hid (X0.out.trans (hb2.mono X0.out.size)); replace K0 := Lib.hid (K0.out.up hb2); replace S0 := Lib.hid (S0.out.up hb2); replace y0 := upc y0 hb2; replace y1 := upc y1 hb2; clear hb2; obtain ⟨b0, b1, b2, b3⟩ := K0.out; have hlook := S0.out.look HX1.out HX2.out; rw [HRR.out] at hlook; obtain ⟨w3, hput, S3, hg3⟩ := S0.out.put HX1.out HX2.out hlen.out; have HG3 := Lib.hid hg3; have HS3 := Lib.hid S3; clear hg3 S3))
                  have X3 : Hid (Below w.heap.size w w3) := X0.out.grown HG3.out X0.out.size (fun k e => by cases e; exact Nat.le_refl _)
                  have HPN : Hid (goodF (l.take (i + 1)) (l.drop (i + 1)) = G) := by
                    show _ = _
                    have h1 := HP.out
                    rw [HST.out, decide_eq_true HOK.out, HRR.out] at h1
                    simpa using h1
                  have HSN : Hid (SetM w3 w.heap.size (namesR (l.take (i + 1)))) := by show SetM _ _ _; rw [HTA.out, namesR_snoc]; exact HS3.out
                  go_roundw
                  case rel => exact ⟨i + 1, by omega, by go_num, HPN, HSN, X3.out⟩
                  case measure => simp [intOf]; omega
                · have hx : C = false := by
                    have h1 := HP.out
                    rw [HST.out, HRR.out] at h1
                    rw [← HCC.out, ← h1]; simp
                  subst hx
                  go_wp2_with (first
                    | (go_at_call 55; first | ((with_reducible refine (H1.out _).mono ?_); rintro e w' ⟨rfl, rfl⟩) | ((with_reducible refine (H2.out _).mono ?_); rintro e w' ⟨rfl, rfl⟩))
                    | (go_at_call 56; refine (H3.out _).mono ?_; rintro e w1 ⟨rfl, hb1⟩; replace X0 := Lib.hid (X0.out.trans (hb1.mono X0.out.size)); replace K0 := Lib.hid (K0.out.up hb1); replace S0 := Lib.hid (S0.out.up hb1); replace y0 := upc y0 hb1; replace y1 := upc y1 hb1; clear hb1; obtain ⟨b0, b1, b2, b3⟩ := K0.out)
                    | (go_at_call 57; refine (H4.out _).mono ?_; rintro e w2 ⟨rfl, hb2⟩; replace X0 := Lib.hid (X0.out.trans (hb2.mono X0.out.size)); replace K0 := Lib.hid (K0.out.up hb2); replace S0 := Lib.hid (S0.out.up hb2); replace y0 := upc y0 hb2; replace y1 := upc y1 hb2; clear hb2; obtain ⟨b0, b1, b2, b3⟩ := K0.out; have hlook := S0.out.look HX1.out HX2.out; rw [HRR.out] at hlook))
                  go_ret
                  exact ⟨rfl, X0.out⟩
              · obtain rfl : z = 0 := by rw [← hz]; exact (zone_away s3 s4).2 h4
                obtain rfl := hbad (fun h => h4 h.2.2)
                clear h1 h2 h3 h4 hbad hz
                go_wp2_with (first
                  | (go_at_call 55; first | ((with_reducible refine (H1.out _).mono ?_); rintro e w' ⟨rfl, rfl⟩) | ((with_reducible refine (H2.out _).mono ?_); rintro e w' ⟨rfl, rfl⟩))
                  | (go_at_call 56; refine (H3.out _).mono ?_; rintro e w1 ⟨rfl, hb1⟩; replace X0 := Lib.hid (X0.out.trans (hb1.mono X0.out.size)); replace K0 := Lib.hid (K0.out.up hb1); replace S0 := Lib.hid (S0.out.up hb1); replace y0 := upc y0 hb1; replace y1 := upc y1 hb1; clear hb1; obtain ⟨b0, b1, b2, b3⟩ := K0.out)
                  | (go_at_call 57; refine (H4.out _).mono ?_; rintro e w2 ⟨rfl, hb2⟩; replace X0 := Lib.hid (X0.out.trans (hb2.mono X0.out.size)); replace K0 := Lib.hid (K0.out.up hb2); replace S0 := Lib.hid (S0.out.up hb2); replace y0 := upc y0 hb2; replace y1 := upc y1 hb2; clear hb2; obtain ⟨b0, b1, b2, b3⟩ := K0.out))
                go_ret
                exact ⟨rfl, X0.out⟩
            · rw [decide_eq_false h3] at H3
              obtain rfl := hbad (fun h => h3 h.2.1)
              clear h1 h2 h3 hbad
              go_wp2_with (first
                | (go_at_call 55; first | ((with_reducible refine (H1.out _).mono ?_); rintro e w' ⟨rfl, rfl⟩) | ((with_reducible refine (H2.out _).mono ?_); rintro e w' ⟨rfl, rfl⟩))
                | (go_at_call 56; refine (H3.out _).mono ?_; rintro e w1 ⟨rfl, hb1⟩; replace X0 := Lib.hid (X0.out.trans (hb1.mono X0.out.size)); clear hb1))
              go_ret
              exact ⟨rfl, X0.out⟩
          · rw [decide_eq_false h2] at H2
            obtain rfl := hbad (fun h => h2 h.1.2)
            clear h1 h2 hbad
            go_wp2_with (go_at_call 55; first | ((with_reducible refine (H1.out _).mono ?_); rintro e w' ⟨rfl, rfl⟩) | ((with_reducible refine (H2.out _).mono ?_); rintro e w' ⟨rfl, rfl⟩))
            go_ret
            exact ⟨rfl, X0.out⟩
        · rw [decide_eq_false h1] at H1
          obtain rfl := hbad (fun h => h1 h.1.1)
          clear h1 hbad
          go_wp2_with (go_at_call 55; ((with_reducible refine (H1.out _).mono ?_); rintro e w' ⟨rfl, rfl⟩))
          go_ret
          exact ⟨rfl, X0.out⟩
      · obtain rfl : i = l.length := by omega
        have hG : G = true := by
          have h1 := HP.out
          rw [List.drop_length] at h1
          exact h1.symm
        subst hG
        have hcc := HCC.out
        rw [Bool.true_and] at hcc
        clear hlt
        go_wp2_with (go_at_call 58; refine (HO.out _ _ (HROW.out.up HB.out)).mono ?_; rintro e w1 ⟨rfl, hb1⟩)
        go_ret
        exact ⟨by rw [← hcc]; rfl, HB.out.trans (hb1.mono HB.out.size)⟩
  · have hl' : (16 : Int) < (l.length : Int) := by omega
    rw [decide_eq_false hl, Bool.false_and, Bool.false_and] at hC
    subst hC
    clear hl hcells
    go_enter Try.func32, Try.ntmps32
    go_wp2_with fail
    go_ret
    exact ⟨rfl, Below.refl _ _⟩
end Go.Proofs.Ytomcpgdpjpjioaa
