/- Contract: the document's Find. -/
import Derived.Test.YtomcpgdpjpjioaaD
import Derived.Test.YtomcpgdpjpjioaaQ
namespace Go.Proofs.Ytomcpgdpjpjioaa
open Go.RowKit Go.Proofs Go.Shelf

def isB (t n : Int) (s : St) : Bool := s.t == t && s.n == n
/-- What Find comes to. -/
def findR (t n : Int) (l : List St) : Value := if fidx (isB t n) l < 0 then .tuple #[.int .i64 0, .int .i64 7] else .tuple #[.int .i64 (fidx (isB t n) l), .int .i64 0]
set_option maxHeartbeats 1000000 in
theorem refFind (t n : Int) (l : List St) (v : Value) (w : World) (hrow : RowS w v l) : Calls Try.prog 24 #[v, .int .i64 t, .int .i64 n] w (Back (findR t n l) w) := by
  obtain ⟨A, cap, rfl, hlc, ⟨hcap, -⟩, hcells⟩ := hrow
  have HR := Lib.hid hcells
  obtain ⟨R, hR⟩ : ∃ R, findR t n l = R := ⟨_, rfl⟩
  have HRR := Lib.hid hR
  rw [hR]
  clear hcells hR
  go_enter Try.func24, Try.ntmps24
  go_wp2_with fail
  go_loop [8] (fun iv => ∃ k : Nat, k ≤ l.length ∧ iv = .int .i64 k ∧ Hid (∀ j (hj : j < k) (h : j < l.length), isB t n (l[j]'h) = false)) (fun iv => l.length - (intOf iv).toNat)
  case atStart => exact ⟨0, by omega, rfl, fun j hj => by omega⟩
  case round =>
    obtain ⟨k, hk, rfl, hno⟩ := hrel
    have HN := Lib.hid hno.out
    clear hno
    by_cases hlt : k < l.length
    · have hlt' : (k : Int) < (l.length : Int) := by omega
      obtain ⟨b, o, rfl, hc⟩ := HR.out (by intro h; subst h; simp at hlt)
      obtain ⟨a0, a1, -, -⟩ := hc k hlt
      obtain ⟨s, hs⟩ : ∃ s, l[k]'hlt = s := ⟨_, rfl⟩
      rw [hs] at a0 a1
      have HS := Lib.hid hs
      clear hs hc
      obtain ⟨s1, s2, s3, s4⟩ := s
      by_cases e : isB t n ⟨s1, s2, s3, s4⟩ = true
      · have hf := fidx_at (p := isB t n) hlt (by rw [HS.out]; exact e) (fun j hj => HN.out j hj (by omega))
        have hRk : R = .tuple #[.int .i64 k, .int .i64 0] := by rw [← HRR.out]; unfold findR; rw [hf, if_neg (by omega)]
        have HRk := Lib.hid hRk
        unfold isB at e
        simp only [Bool.and_eq_true, beq_iff_eq] at e
        obtain ⟨rfl, rfl⟩ := e
        clear hf hRk
        go_wp2_with fail
        go_ret2
        exact ⟨by rw [HRk.out]; rfl, Below.refl _ _⟩
      · have hx : Hid (isB t n ⟨s1, s2, s3, s4⟩ = false) := by show _ = _; simpa using e
        have hc2 : (s1 == t) = false ∨ ((s1 == t) = true ∧ (s2 == n) = false) := by
          unfold isB at e
          cases h1 : s1 == t
          · exact .inl rfl
          · refine .inr ⟨rfl, ?_⟩
            cases h2 : s2 == n
            · rfl
            · exact absurd (by simp [h1, h2]) e
        clear e
        rcases hc2 with hc2 | ⟨hc2, hc3⟩
        all_goals
          go_wp2_with fail
          go_round
          case rel =>
            refine ⟨k + 1, by omega, by go_num, fun j hj h => ?_⟩
            by_cases e : j = k
            · subst e; rw [HS.out]; exact hx.out
            · exact HN.out j (by omega) h
          case measure => simp [intOf]; omega
    · obtain rfl : k = l.length := by omega
      have hf := fidx_none (p := isB t n) (l := l) (fun j hj => HN.out j hj hj)
      obtain rfl : R = .tuple #[.int .i64 0, .int .i64 7] := by rw [← HRR.out]; unfold findR; rw [hf, if_pos (by omega)]
      clear hf
      go_wp2_with fail
      go_ret2
      exact ⟨rfl, Below.refl _ _⟩
end Go.Proofs.Ytomcpgdpjpjioaa
