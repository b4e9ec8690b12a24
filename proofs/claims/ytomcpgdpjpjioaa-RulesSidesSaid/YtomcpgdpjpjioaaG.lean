/- What a valid position is; contract: the document's Check. -/
import Derived.Test.YtomcpgdpjpjioaaF
namespace Go.Proofs.Ytomcpgdpjpjioaa
open Go.RowKit Go.Proofs Go.Shelf

def nameB (a b : St) : Bool := a.t == b.t && a.n == b.n
def okSt (s : St) : Prop := ((0 ≤ s.t ∧ s.t ≤ 1) ∧ 0 ≤ s.n ∧ s.n ≤ 7) ∧ OkS s.x s.y ∧ Play s.x s.y
instance (s : St) : Decidable (okSt s) := by unfold okSt; infer_instance
/-- Stones are valid, with names that no earlier one has. -/
def goodF : List St → List St → Bool
  | _, [] => true
  | pre, s :: r => decide (okSt s) && pre.all (fun a => !nameB a s) && goodF (pre ++ [s]) r
def chkB (l : List St) : Bool := decide (l.length ≤ 16) && goodF [] l && decide ((pairF ovB l 0).1 < 0)
theorem goodF_step {l : List St} {k : Nat} (hk : k < l.length) :
    goodF (l.take k) (l.drop k) = (decide (okSt (l[k]'hk)) && (l.take k).all (fun a => !nameB a (l[k]'hk)) && goodF (l.take (k + 1)) (l.drop (k + 1))) := by
  rw [List.drop_eq_getElem_cons hk, List.take_succ_eq_append_getElem hk]; rfl
theorem all_take {l : List St} {k : Nat} {s : St} (hk : k ≤ l.length) (h : ∀ j (hj : j < l.length), j < k → nameB (l[j]'hj) s = false) : (l.take k).all (fun a => !nameB a s) = true := by
  rw [List.all_eq_true]
  intro a ha
  obtain ⟨j, hj, rfl⟩ := List.getElem_of_mem ha
  rw [List.getElem_take]
  have hj2 : j < k := by rw [List.length_take] at hj; omega
  rw [h j (by omega) hj2]; rfl
theorem not_all_take {l : List St} {k j : Nat} {s : St} (hk : k ≤ l.length) (hj : j < k) (h : nameB (l[j]'(by omega)) s = true) : (l.take k).all (fun a => !nameB a s) = false := by
  rw [← Bool.not_eq_true, List.all_eq_true]
  intro ha
  have hj2 : j < (l.take k).length := by rw [List.length_take]; omega
  have := ha ((l.take k)[j]'hj2) (List.getElem_mem hj2)
  rw [List.getElem_take, h] at this
  cases this

set_option maxHeartbeats 4000000 in
theorem refCheck (l : List St) (v : Value) (w : World) (hrow : RowS w v l) : Calls Try.prog 22 #[v] w (Back (.bool (chkB l)) w) := by
  have HROW := Lib.hid hrow
  obtain ⟨A, cap, rfl, hlc, ⟨hcap, -⟩, hcells⟩ := hrow
  have HR := Lib.hid hcells
  obtain ⟨C, hC⟩ : ∃ C, chkB l = C := ⟨_, rfl⟩
  have HC := Lib.hid hC
  rw [hC]
  unfold chkB at hC
  by_cases hl : l.length ≤ 16
  · have hl' : ¬ (16 : Int) < (l.length : Int) := by omega
    rw [decide_eq_true hl, Bool.true_and] at hC
    obtain ⟨G, hG⟩ : ∃ G, goodF [] l = G := ⟨_, rfl⟩
    have HG : Hid (goodF (l.take 0) (l.drop 0) = G) := hG
    obtain ⟨P1, hP1⟩ : ∃ P, (pairF ovB l 0).1 = P := ⟨_, rfl⟩
    obtain ⟨P2, hP2⟩ : ∃ P, (pairF ovB l 0).2 = P := ⟨_, rfl⟩
    have HO : Hid (∀ w v, RowS w v l → Calls Try.prog 54 #[v] w (Back (.tuple #[.int .i64 P1, .int .i64 P2]) w)) := fun w v h => by rw [← hP1, ← hP2]; exact refOverlap l v w h
    rw [hG, hP1] at hC
    have HCC := Lib.hid hC
    clear hC hG hP1 hP2 hcells hl
    go_enter Try.func22, Try.ntmps22
    go_wp2_with fail
    go_loopw [3] (fun iv wr => ∃ i : Nat, i ≤ l.length ∧ iv = .int .i64 i ∧ Hid (goodF (l.take i) (l.drop i) = G) ∧ Below w.heap.size w wr) (fun iv _ => l.length - (intOf iv).toNat)
    case atStart => exact ⟨0, by omega, rfl, HG, Below.refl _ _⟩
    case round =>
      obtain ⟨i, hi, rfl, hP, hb⟩ := hrel
      have HP := Lib.hid hP.out
      have HB := Lib.hid hb
      clear hP hb
      rename World => wo
      by_cases hlt : i < l.length
      · have hlt' : (i : Int) < (l.length : Int) := by omega
        obtain ⟨b, o, rfl, hc⟩ := HR.out (by intro h; subst h; simp at hlt)
        have HCE := Lib.hid hc
        obtain ⟨s, hs⟩ : ∃ s, l[i]'hlt = s := ⟨_, rfl⟩
        have HS := Lib.hid hs
        have hA := hc i hlt
        rw [hs] at hA
        obtain ⟨a0, a1, a2, a3⟩ := hA.up HB.out
        have hst := goodF_step hlt
        rw [hs] at hst
        have HST := Lib.hid hst
        clear hs hc hA hst
        obtain ⟨s1, s2, s3, s4⟩ := s
        have H1 := Lib.hid (fun w => refIn s1 0 1 w)
        have H2 := Lib.hid (fun w => refIn s2 0 7 w)
        have H3 := Lib.hid (fun w => refCheckSpot s3 s4 w)
        have X0 : Hid (Below w.heap.size w (wo.alloc (Sto ⟨s1, s2, s3, s4⟩))) := HB.out.alloc HB.out.size _
        have K0 : Hid (At4 (wo.alloc (Sto ⟨s1, s2, s3, s4⟩)) wo.heap.size 0 ⟨s1, s2, s3, s4⟩) := At4.new wo ⟨s1, s2, s3, s4⟩
        have hbad : ¬ okSt ⟨s1, s2, s3, s4⟩ → C = false := by
          intro h
          have h1 := HP.out
          rw [HST.out, decide_eq_false h, Bool.false_and, Bool.false_and] at h1
          rw [← HCC.out, ← h1, Bool.false_and]
        by_cases h1 : 0 ≤ s1 ∧ s1 ≤ 1
        · rw [decide_eq_true h1] at H1
          by_cases h2 : 0 ≤ s2 ∧ s2 ≤ 7
          · rw [decide_eq_true h2] at H2
            by_cases h3 : OkS s3 s4
            · rw [decide_eq_true h3] at H3
              have H4 := Lib.hid (fun w => refPlaying s3 s4 w h3)
              by_cases h4 : Play s3 s4
              · rw [decide_eq_true h4] at H4
                have HOK : Hid (okSt ⟨s1, s2, s3, s4⟩) := ⟨⟨h1, h2⟩, h3, h4⟩
                clear h1 h2 h3 h4 hbad
                go_wp2_with (first
                  | (go_at_call 51; first | ((with_reducible refine (H1.out _).mono ?_); rintro e w' ⟨rfl, rfl⟩) | ((with_reducible refine (H2.out _).mono ?_); rintro e w' ⟨rfl, rfl⟩))
                  | (go_at_call 52; refine (H3.out _).mono ?_; rintro e w1 ⟨rfl, hb1⟩; replace X0 := Lib.hid (X0.out.trans (hb1.mono X0.out.size)); replace K0 := Lib.hid (K0.out.up hb1); clear hb1; obtain ⟨b0, b1, b2, b3⟩ := K0.out)
                  | (go_at_call 53; refine (H4.out _).mono ?_; rintro e w2 ⟨rfl, hb2⟩; replace X0 := Lib.hid (X0.out.trans (hb2.mono X0.out.size)); replace K0 := Lib.hid (K0.out.up hb2); clear hb2; obtain ⟨b0, b1, b2, b3⟩ := K0.out))
                clear a0 a1 a2 a3 b0 b1 b2 b3
                go_loopw [5] (fun kv wr => ∃ k : Nat, k ≤ i ∧ kv = .int .i64 k ∧ Hid (∀ j (hj : j < l.length), j < k → nameB (l[j]'hj) ⟨s1, s2, s3, s4⟩ = false) ∧ Hid (At4 wr wo.heap.size 0 ⟨s1, s2, s3, s4⟩) ∧ Below w.heap.size w wr) (fun kv _ => i - (intOf kv).toNat)
                case atStart => exact ⟨0, by omega, rfl, fun j hj h => by omega, K0, X0.out⟩
                case round =>
                  obtain ⟨k, hk, rfl, hno, hK, hb2⟩ := hrel
                  have HN := Lib.hid hno.out
                  have HK := Lib.hid hK.out
                  have HB2 := Lib.hid hb2
                  clear hno hb2 hK
                  by_cases hki : k < i
                  · have hki' : (k : Int) < (i : Int) := by omega
                    have hkl : k < l.length := by omega
                    obtain ⟨z, hz⟩ : ∃ z, l[k]'hkl = z := ⟨_, rfl⟩
                    have hB := HCE.out k hkl
                    rw [hz] at hB
                    have HZ := Lib.hid hz
                    obtain ⟨c0, c1, -, -⟩ := hB.up HB2.out
                    obtain ⟨d0, d1, -, -⟩ := HK.out
                    clear hz hB
                    obtain ⟨z1, z2, z3, z4⟩ := z
                    by_cases e1 : z1 = s1
                    · subst e1
                      by_cases e2 : z2 = s2
                      · subst e2
                        have hx : C = false := by
                          have h1 := HP.out
                          rw [HST.out, not_all_take hi hki (by rw [HZ.out]; simp [nameB]), Bool.and_false, Bool.false_and] at h1
                          rw [← HCC.out, ← h1, Bool.false_and]
                        subst hx
                        go_wp2_with fail
                        go_quiet (fail)
                        go_wp2_with fail
                        go_ret
                        exact ⟨rfl, below_drewN HB2.out _⟩
                      · have e2' : (z2 == s2) = false := by simpa using e2
                        have hx : Hid (nameB ⟨z1, z2, z3, z4⟩ ⟨z1, s2, s3, s4⟩ = false) := by show _ = _; simp [nameB, e2]
                        clear e2
                        go_wp2_with fail
                        go_quiet (fail)
                        go_wp2_with fail
                        go_roundw
                        case rel =>
                          refine ⟨k + 1, by omega, by go_num, fun j hj h => ?_, HK.out.drew, below_drewN HB2.out _⟩
                          by_cases e : j = k
                          · subst e; rw [HZ.out]; exact hx.out
                          · exact HN.out j hj (by omega)
                        case measure => simp [intOf]; omega
                    · have e1' : (z1 == s1) = false := by simpa using e1
                      have hx : Hid (nameB ⟨z1, z2, z3, z4⟩ ⟨s1, s2, s3, s4⟩ = false) := by show _ = _; simp [nameB, e1]
                      clear e1
                      go_wp2_with fail
                      go_quiet (fail)
                      go_wp2_with fail
                      go_roundw
                      case rel =>
                        refine ⟨k + 1, by omega, by go_num, fun j hj h => ?_, HK.out.drew, below_drewN HB2.out _⟩
                        by_cases e : j = k
                        · subst e; rw [HZ.out]; exact hx.out
                        · exact HN.out j hj (by omega)
                      case measure => simp [intOf]; omega
                  · obtain rfl : k = i := by omega
                    have hall := all_take (s := ⟨s1, s2, s3, s4⟩) hi (fun j hj h => HN.out j hj h)
                    have HPN : Hid (goodF (l.take (k + 1)) (l.drop (k + 1)) = G) := by
                      show _ = _
                      have h1 := HP.out
                      rw [HST.out, hall, decide_eq_true HOK.out] at h1
                      simpa using h1
                    clear hall
                    go_wp2_with fail
                    go_roundw
                    case rel => exact ⟨k + 1, by omega, by go_num, HPN, HB2.out⟩
                    case measure => simp [intOf]; omega
              · rw [decide_eq_false h4] at H4
                obtain rfl := hbad (fun h => h4 h.2.2)
                clear h1 h2 h3 h4 hbad
                go_wp2_with (first
                  | (go_at_call 51; first | ((with_reducible refine (H1.out _).mono ?_); rintro e w' ⟨rfl, rfl⟩) | ((with_reducible refine (H2.out _).mono ?_); rintro e w' ⟨rfl, rfl⟩))
                  | (go_at_call 52; refine (H3.out _).mono ?_; rintro e w1 ⟨rfl, hb1⟩; replace X0 := Lib.hid (X0.out.trans (hb1.mono X0.out.size)); replace K0 := Lib.hid (K0.out.up hb1); clear hb1; obtain ⟨b0, b1, b2, b3⟩ := K0.out)
                  | (go_at_call 53; refine (H4.out _).mono ?_; rintro e w2 ⟨rfl, hb2⟩; replace X0 := Lib.hid (X0.out.trans (hb2.mono X0.out.size)); replace K0 := Lib.hid (K0.out.up hb2); clear hb2; obtain ⟨b0, b1, b2, b3⟩ := K0.out))
                go_ret
                exact ⟨rfl, X0.out⟩
            · rw [decide_eq_false h3] at H3
              obtain rfl := hbad (fun h => h3 h.2.1)
              clear h1 h2 h3 hbad
              go_wp2_with (first
                | (go_at_call 51; first | ((with_reducible refine (H1.out _).mono ?_); rintro e w' ⟨rfl, rfl⟩) | ((with_reducible refine (H2.out _).mono ?_); rintro e w' ⟨rfl, rfl⟩))
                | (go_at_call 52; refine (H3.out _).mono ?_; rintro e w1 ⟨rfl, hb1⟩; replace X0 := Lib.hid (X0.out.trans (hb1.mono X0.out.size)); replace K0 := Lib.hid (K0.out.up hb1); clear hb1; obtain ⟨b0, b1, b2, b3⟩ := K0.out))
              go_ret
              exact ⟨rfl, X0.out⟩
          · rw [decide_eq_false h2] at H2
            obtain rfl := hbad (fun h => h2 h.1.2)
            clear h1 h2 hbad
            go_wp2_with (go_at_call 51; first | ((with_reducible refine (H1.out _).mono ?_); rintro e w' ⟨rfl, rfl⟩) | ((with_reducible refine (H2.out _).mono ?_); rintro e w' ⟨rfl, rfl⟩))
            go_ret
            exact ⟨rfl, X0.out⟩
        · rw [decide_eq_false h1] at H1
          obtain rfl := hbad (fun h => h1 h.1.1)
          clear h1 hbad
          go_wp2_with (go_at_call 51; ((with_reducible refine (H1.out _).mono ?_); rintro e w' ⟨rfl, rfl⟩))
          go_ret
          exact ⟨rfl, X0.out⟩
      · obtain rfl : i = l.length := by omega
        have hG : G = true := by
          have h1 := HP.out
          rw [List.drop_length] at h1
          exact h1.symm
        subst hG
        have hcc := HCC.out
        rw [Bool.true_and] at hcc
        clear hlt
        go_wp2_with (go_at_call 54; refine (HO.out _ _ (HROW.out.up HB.out)).mono ?_; rintro e w1 ⟨rfl, hb1⟩)
        go_ret
        exact ⟨by rw [← hcc]; rfl, HB.out.trans (hb1.mono HB.out.size)⟩
  · have hl' : (16 : Int) < (l.length : Int) := by omega
    rw [decide_eq_false hl, Bool.false_and, Bool.false_and] at hC
    subst hC
    clear hl hcells HC
    go_enter Try.func22, Try.ntmps22
    go_wp2_with fail
    go_ret
    exact ⟨rfl, Below.refl _ _⟩
end Go.Proofs.Ytomcpgdpjpjioaa
