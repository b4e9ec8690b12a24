/- Contracts: the document's kept and fixed. -/
import Derived.Test.YtomcpgdpjpjioaaWh
namespace Go.Proofs.Ytomcpgdpjpjioaa
open Go.RowKit Go.Proofs Go.Shelf

abbrev Cdo (c : Cd) : Obj := .cells #[.int .i64 c.f, .int .i64 c.t, .int .i64 c.s, .int .i64 c.e, .bool c.p] 23
set_option maxHeartbeats 1000000 in
theorem refkept (c : Cd) (n team : Int) (s : St) (w : World) : Calls Try.prog 38 #[Cdv c, .int .i64 n, .int .i64 team, Stv s] w (Back (.bool (kpB c n team s)) w) := by
  have B : Hid (Below w.heap.size w ((w.alloc (Cdo c)).alloc (Sto s))) := ((Below.refl _ _).alloc (Nat.le_refl _) _).alloc (by simp) _
  have H61 := Lib.hid (fun w => refguard s w)
  obtain ⟨g, hg⟩ : ∃ g, (zn s.x s.y == 1) = g := ⟨_, rfl⟩
  obtain ⟨r, hr⟩ : ∃ r, kpB c n team s = r := ⟨_, rfl⟩
  have HR : Hid ((decide (n < c.s) || (decide (n < c.f) && (s.t != team && g))) = r) := by show _ = _; rw [← hg]; exact hr
  rw [hg] at H61
  rw [hr]
  clear hg hr
  obtain ⟨f, t, s', e, p⟩ := c
  obtain ⟨s1, s2, s3, s4⟩ := s
  have HR : Hid ((decide (n < s') || (decide (n < f) && (s1 != team && g))) = r) := HR.out
  by_cases h1 : n < s'
  · have HR2 : Hid (r = true) := by show _ = _; rw [← HR.out, decide_eq_true h1]; simp
    clear HR
    go_enter Try.func38, Try.ntmps38
    go_wp2_with fail
    go_ret
    exact ⟨by rw [HR2.out]; rfl, B.out⟩
  · by_cases h2 : n < f
    · by_cases h3 : s1 = team
      · subst h3
        have HR2 : Hid (r = false) := by show _ = _; rw [← HR.out, decide_eq_false h1]; simp
        clear HR
        go_enter Try.func38, Try.ntmps38
        go_wp2_with fail
        go_ret
        exact ⟨by rw [HR2.out]; rfl, B.out⟩
      · have h3' : (s1 != team) = true := by simpa using h3
        have h3'' : (s1 == team) = false := by simpa using h3
        have HR2 : Hid (r = g) := by show _ = _; rw [← HR.out, decide_eq_false h1, decide_eq_true h2, h3']; simp
        clear HR
        go_enter Try.func38, Try.ntmps38
        go_wp2_with (go_at_call 61; refine (H61.out _).mono ?_; rintro e w1 ⟨rfl, hb1⟩; replace B := Lib.hid (B.out.trans (hb1.mono B.out.size)); clear hb1)
        go_ret
        exact ⟨by rw [HR2.out]; rfl, B.out⟩
    · have HR2 : Hid (r = false) := by show _ = _; rw [← HR.out, decide_eq_false h1, decide_eq_false h2]; simp
      clear HR
      go_enter Try.func38, Try.ntmps38
      go_wp2_with fail
      go_ret
      exact ⟨by rw [HR2.out]; rfl, B.out⟩

set_option maxHeartbeats 1000000 in
theorem reffixed (c : Cd) (n team : Int) (s : St) (w : World) : Calls Try.prog 39 #[Cdv c, .int .i64 n, .int .i64 team, Stv s] w (Back (.bool (fxB c n team s)) w) := by
  have HS := Lib.hid (At4.new (w.alloc (Cdo c)) s)
  rw [World.size_alloc] at HS
  have B : Hid (Below w.heap.size w ((w.alloc (Cdo c)).alloc (Sto s))) := ((Below.refl _ _).alloc (Nat.le_refl _) _).alloc (by simp) _
  have H61 := Lib.hid (fun w => refguard s w)
  have H62 := Lib.hid (fun w => refcentre s w)
  obtain ⟨g, hg⟩ : ∃ g, (zn s.x s.y == 1) = g := ⟨_, rfl⟩
  obtain ⟨k, hk⟩ : ∃ k, cen s = k := ⟨_, rfl⟩
  obtain ⟨r, hr⟩ : ∃ r, fxB c n team s = r := ⟨_, rfl⟩
  have HR : Hid ((decide (n < c.t) && (s.t != team && g) && k) = r) := by show _ = _; rw [← hg, ← hk]; exact hr
  rw [hg] at H61
  rw [hk] at H62
  rw [hr]
  clear hg hk hr
  obtain ⟨f, t, s', e, p⟩ := c
  obtain ⟨s1, s2, s3, s4⟩ := s
  have HR : Hid ((decide (n < t) && (s1 != team && g) && k) = r) := HR.out
  by_cases h1 : n < t
  · by_cases h3 : s1 = team
    · subst h3
      have HR2 : Hid (r = false) := by show _ = _; rw [← HR.out]; simp
      clear HR
      go_enter Try.func39, Try.ntmps39
      go_wp2_with fail
      go_ret
      exact ⟨by rw [HR2.out]; rfl, B.out⟩
    · have h3' : (s1 != team) = true := by simpa using h3
      have h3'' : (s1 == team) = false := by simpa using h3
      cases g
      all_goals
        have HR2 := HR.out
        rw [decide_eq_true h1, h3'] at HR2
        have HR3 := Lib.hid HR2
        clear HR HR2
        go_enter Try.func39, Try.ntmps39
        go_wp2_with (first
          | (go_at_call 61; refine (H61.out _).mono ?_; rintro e w1 ⟨rfl, hb1⟩; replace B := Lib.hid (B.out.trans (hb1.mono B.out.size)); replace HS := Lib.hid (HS.out.up hb1); clear hb1; obtain ⟨a0, a1, a2, a3⟩ := HS.out)
          | (go_at_call 62; refine (H62.out _).mono ?_; rintro e w1 ⟨rfl, hb1⟩; replace B := Lib.hid (B.out.trans (hb1.mono B.out.size)); clear hb1))
        go_ret
        exact ⟨by rw [← HR3.out]; first | rfl | (simp; rfl), B.out⟩
  · have HR2 : Hid (r = false) := by show _ = _; rw [← HR.out, decide_eq_false h1]; simp
    clear HR
    go_enter Try.func39, Try.ntmps39
    go_wp2_with fail
    go_ret
    exact ⟨by rw [HR2.out]; rfl, B.out⟩
end Go.Proofs.Ytomcpgdpjpjioaa
