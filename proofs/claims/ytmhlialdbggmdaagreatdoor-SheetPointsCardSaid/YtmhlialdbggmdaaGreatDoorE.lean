/- Contracts: Find, and the document's Find and Overlap. -/
import Derived.Test.YtmhlialdbggmdaaGreatDoorD
import Derived.Test.YtmhlialdbggmdaaGreatDoorQ
namespace Go.Proofs.YtmhlialdbggmdaaGreatDoor
open Go.RowKit Go.Proofs Go.Shelf

def isB (t n : Int) (s : St) : Bool := s.t == t && s.n == n
theorem cl62 (pt pn : Nat) (t n : Int) (s : St) (w : World) (h1 : w.cell? ⟨pt, 0, none⟩ = some (.int .i64 t)) (h2 : w.cell? ⟨pn, 0, none⟩ = some (.int .i64 n)) :
    Calls Tryz.prog 62 #[Stv s, .pointer (some ⟨pt, 0, none⟩), .pointer (some ⟨pn, 0, none⟩)] w (Back (.bool (isB t n s)) w) := by
  obtain ⟨t2, n2, x2, y2⟩ := s
  have g1 := upa h1 (Sto ⟨t2, n2, x2, y2⟩)
  have g2 := upa h2 (Sto ⟨t2, n2, x2, y2⟩)
  unfold isB
  clear h1 h2
  obtain ⟨r, hr⟩ : ∃ r, (n2 == n) = r := ⟨_, rfl⟩
  by_cases e : t2 = t
  · subst e
    go_enter Tryz.func62, Tryz.ntmps62
    go_wp2_with fail
    go_ret
    exact ⟨by simp [hr], (Below.refl _ _).alloc (Nat.le_refl _) _⟩
  · have e' : (t2 == t) = false := by simpa using e
    go_enter Tryz.func62, Tryz.ntmps62
    go_wp2_with fail
    go_ret
    exact ⟨by rw [e']; rfl, (Below.refl _ _).alloc (Nat.le_refl _) _⟩
/-- What Find comes to. -/
def findR (t n : Int) (l : List St) : Value := if fidx (isB t n) l < 0 then .tuple #[.int .i64 0, .int .i64 7] else .tuple #[.int .i64 (fidx (isB t n) l), .int .i64 0]
theorem Find_any (t n : Int) (l : List St) (v : Value) (w : World) (hrow : RowS w v l) : Calls Tryz.prog 26 #[v, .int .i64 t, .int .i64 n] w (Back (findR t n l) w) := by
  have hmf : ∀ (fn : Fn) (first cap : Array Value) (w : World), (Instr.makeFunc fn first cap).run Tryz.prog w = .ok (.func fn first cap) w := fun _ _ _ _ => rfl
  obtain ⟨W, hW⟩ : ∃ W, (w.alloc (.cells #[.int .i64 t] 3)).alloc (.cells #[.int .i64 n] 3) = W := ⟨_, rfl⟩
  have B0 : Hid (Below w.heap.size w W) := by rw [← hW]; exact ((Below.refl _ _).alloc (Nat.le_refl _) _).alloc (by simp) _
  have c0 : W.cell? ⟨w.heap.size, 0, none⟩ = some (.int .i64 t) := by rw [← hW]; simp [go_sem]
  have c1 : W.cell? ⟨w.heap.size + 1, 0, none⟩ = some (.int .i64 n) := by rw [← hW]; simp [go_sem]
  have H := Lib.hid (idxS 62 #[.pointer (some ⟨w.heap.size, 0, none⟩), .pointer (some ⟨w.heap.size + 1, 0, none⟩)] (isB t n) l v W (enters_of Tryz.func62 (by kernel_rfl) rfl) (hrow.up B0.out) (fun s W' hW' => cl62 _ _ t n s W' (upc c0 hW') (upc c1 hW')))
  unfold findR
  obtain ⟨m, hm⟩ : ∃ m, fidx (isB t n) l = m := ⟨_, rfl⟩
  rw [hm] at H ⊢
  clear c0 c1 hm hrow
  by_cases h : m < 0
  · rw [if_pos h]
    go_enter Tryz.func26, Tryz.ntmps26
    go_wp2_with (go_at_call 61; (try rw [hW]); refine H.out.mono ?_; rintro e w1 ⟨rfl, hb1⟩)
    go_ret2
    exact ⟨rfl, B0.out.trans (hb1.mono B0.out.size)⟩
  · rw [if_neg h]
    go_enter Tryz.func26, Tryz.ntmps26
    go_wp2_with (go_at_call 61; (try rw [hW]); refine H.out.mono ?_; rintro e w1 ⟨rfl, hb1⟩)
    go_ret2
    exact ⟨rfl, B0.out.trans (hb1.mono B0.out.size)⟩
set_option maxHeartbeats 1000000 in
theorem refFind (t n : Int) (l : List St) (v : Value) (w : World) (hrow : RowS w v l) : Calls Tryz.prog 27 #[v, .int .i64 t, .int .i64 n] w (Back (findR t n l) w) := by
  obtain ⟨A, cap, rfl, hlc, ⟨hcap, -⟩, hcells⟩ := hrow
  have HR := Lib.hid hcells
  obtain ⟨R, hR⟩ : ∃ R, findR t n l = R := ⟨_, rfl⟩
  have HRR := Lib.hid hR
  rw [hR]
  clear hcells hR
  go_enter Tryz.func27, Tryz.ntmps27
  go_wp2_with fail
  go_loop [8] (fun iv => ∃ k : Nat, k ≤ l.length ∧ iv = .int .i64 k ∧ Hid (∀ j (hj : j < k) (h : j < l.length), isB t n (l[j]'h) = false)) (fun iv => l.length - (intOf iv).toNat)
  case atStart => exact ⟨0, by omega, rfl, fun j hj => by omega⟩
  case round =>
    obtain ⟨k, hk, rfl, hno⟩ := hrel
    have HN := Lib.hid hno.out
    clear hno
    by_cases hlt : k < l.length
    · have hlt' : (k : Int) < (l.length : Int) := by omega
      obtain ⟨b, o, rfl, hc⟩ := HR.out (by intro h; subst h; simp at hlt)
      obtain ⟨a0, a1, -, -⟩ := hc k hlt
      obtain ⟨s, hs⟩ : ∃ s, l[k]'hlt = s := ⟨_, rfl⟩
      rw [hs] at a0 a1
      have HS := Lib.hid hs
      clear hs hc
      obtain ⟨s1, s2, s3, s4⟩ := s
      by_cases e : isB t n ⟨s1, s2, s3, s4⟩ = true
      · have hf := fidx_at (p := isB t n) hlt (by rw [HS.out]; exact e) (fun j hj => HN.out j hj (by omega))
        have hRk : R = .tuple #[.int .i64 k, .int .i64 0] := by rw [← HRR.out]; unfold findR; rw [hf, if_neg (by omega)]
        have HRk := Lib.hid hRk
        unfold isB at e
        simp only [Bool.and_eq_true, beq_iff_eq] at e
        obtain ⟨rfl, rfl⟩ := e
        clear hf hRk
        go_wp2_with fail
        go_ret2
        exact ⟨by rw [HRk.out]; rfl, Below.refl _ _⟩
      · have hx : Hid (isB t n ⟨s1, s2, s3, s4⟩ = false) := by show _ = _; simpa using e
        have hc2 : (s1 == t) = false ∨ ((s1 == t) = true ∧ (s2 == n) = false) := by
          unfold isB at e
          cases h1 : s1 == t
          · exact .inl rfl
          · refine .inr ⟨rfl, ?_⟩
            cases h2 : s2 == n
            · rfl
            · exact absurd (by simp [h1, h2]) e
        clear e
        rcases hc2 with hc2 | ⟨hc2, hc3⟩
        all_goals
          go_wp2_with fail
          go_round
          case rel =>
            refine ⟨k + 1, by omega, by go_num, fun j hj h => ?_⟩
            by_cases e : j = k
            · subst e; rw [HS.out]; exact hx.out
            · exact HN.out j (by omega) h
          case measure => simp [intOf]; omega
    · obtain rfl : k = l.length := by omega
      have hf := fidx_none (p := isB t n) (l := l) (fun j hj => HN.out j hj hj)
      obtain rfl : R = .tuple #[.int .i64 0, .int .i64 7] := by rw [← HRR.out]; unfold findR; rw [hf, if_pos (by omega)]
      clear hf
      go_wp2_with fail
      go_ret2
      exact ⟨rfl, Below.refl _ _⟩
end Go.Proofs.YtmhlialdbggmdaaGreatDoor
