/- Which stones are protected, and fixed: contracts of the program's methods and of the document's functions. -/
import Derived.Test.YtomcpgdpjpjioaaCc
namespace Go.Proofs.Ytomcpgdpjpjioaa
open Go.RowKit Go.Proofs Go.Shelf

/-- A turn: a code, how many stones are thrown, whose throw it is. -/
abbrev Tnv (c : Cd) (n team : Int) : Value := .agg #[.int .i64 c.f, .int .i64 c.t, .int .i64 c.s, .int .i64 c.e, .bool c.p, .int .i64 n, .int .i64 team]
abbrev Tno (c : Cd) (n team : Int) : Obj := .cells #[.int .i64 c.f, .int .i64 c.t, .int .i64 c.s, .int .i64 c.e, .bool c.p, .int .i64 n, .int .i64 team] 66
def zn (x y : Int) : Int := if OkS x y then zoneZ x y else 0
theorem zoneR_zn (x y : Int) : ∃ e : Int, zoneR x y = .tuple #[.int .i64 (zn x y), .int .i64 e] := by
  unfold zoneR zn
  by_cases h : OkS x y
  · exact ⟨0, by rw [if_pos h, if_pos h]⟩
  · exact ⟨2, by rw [if_neg h, if_neg h]⟩
def cen (s : St) : Bool := decide (OkS s.x s.y) && decide (Play s.x s.y ∧ ab s.x ≤ 9502720)
theorem onR_cen (s : St) : ∃ e : Int, onR s.x s.y = .tuple #[.bool (cen s), .int .i64 e] := by
  unfold onR cen
  by_cases h : OkS s.x s.y
  · exact ⟨0, by rw [if_pos h, decide_eq_true h]; rfl⟩
  · exact ⟨2, by rw [if_neg h, decide_eq_false h]; rfl⟩
def guB (team : Int) (s : St) : Bool := s.t != team && zn s.x s.y == 1
def kpB (c : Cd) (n team : Int) (s : St) : Bool := decide (n < c.s) || (decide (n < c.f) && guB team s)
def fxB (c : Cd) (n team : Int) (s : St) : Bool := decide (n < c.t) && guB team s && cen s

set_option maxHeartbeats 1000000 in
theorem guards_any (c : Cd) (n team : Int) (s : St) (w : World) : Calls Try.prog 59 #[Tnv c n team, Stv s] w (Back (.bool (guB team s)) w) := by
  have HS := Lib.hid (At4.new (w.alloc (Tno c n team)) s)
  have B : Hid (Below w.heap.size w ((w.alloc (Tno c n team)).alloc (Sto s))) := ((Below.refl _ _).alloc (Nat.le_refl _) _).alloc (by simp) _
  rw [World.size_alloc] at HS
  obtain ⟨f, t, s', e, p⟩ := c
  obtain ⟨s1, s2, s3, s4⟩ := s
  have ht : ((w.alloc (Tno ⟨f, t, s', e, p⟩ n team)).alloc (Sto ⟨s1, s2, s3, s4⟩)).cell? ⟨w.heap.size, 6, none⟩ = some (.int .i64 team) := by
    rw [World.cell?_alloc_past (w := w.alloc (Tno ⟨f, t, s', e, p⟩ n team)) _ w.heap.size 6 (by simp)]
    simp [go_sem]
  have HT := Lib.hid ht
  clear ht
  obtain ⟨e5, hz⟩ := zoneR_zn s3 s4
  obtain ⟨z, hz'⟩ : ∃ z, zn s3 s4 = z := ⟨_, rfl⟩
  rw [hz'] at hz
  have H80 : Hid (∀ w, Calls Try.prog 80 #[Sp s3 s4] w (Back (.tuple #[.int .i64 z, .int .i64 e5]) w)) := fun w => by rw [← hz]; exact Zone_any s3 s4 w
  have HR : Hid (guB team ⟨s1, s2, s3, s4⟩ = (s1 != team && z == 1)) := by show _ = _; unfold guB; rw [hz']
  obtain ⟨r, hr⟩ : ∃ r, guB team ⟨s1, s2, s3, s4⟩ = r := ⟨_, rfl⟩
  rw [hr] at HR ⊢
  clear hz hz' hr
  by_cases h1 : s1 = team
  · subst h1
    have h1' : (s1 != s1) = false := by simp
    have HR2 : Hid (r = false) := by show _ = _; rw [HR.out]; simp
    clear HR h1'
    go_enter Try.func59, Try.ntmps59
    go_wp2_with (go_at_call 80; refine (H80.out _).mono ?_; rintro e w1 ⟨rfl, hb1⟩; replace HS := Lib.hid (HS.out.up hb1); replace HT := Lib.hid (upc HT.out hb1); replace B := Lib.hid (B.out.trans (hb1.mono B.out.size)); clear hb1; obtain ⟨a0, a1, a2, a3⟩ := HS.out; have b0 := HT.out)
    go_ret
    exact ⟨by rw [HR2.out]; rfl, B.out⟩
  · have h1' : (s1 != team) = true := by simpa using h1
    have h1'' : (s1 == team) = false := by simpa using h1
    have HR2 : Hid (r = (z == 1)) := by show _ = _; rw [HR.out, h1']; simp
    clear HR
    go_enter Try.func59, Try.ntmps59
    go_wp2_with (go_at_call 80; refine (H80.out _).mono ?_; rintro e w1 ⟨rfl, hb1⟩; replace HS := Lib.hid (HS.out.up hb1); replace HT := Lib.hid (upc HT.out hb1); replace B := Lib.hid (B.out.trans (hb1.mono B.out.size)); clear hb1; obtain ⟨a0, a1, a2, a3⟩ := HS.out; have b0 := HT.out)
    go_ret
    exact ⟨by rw [HR2.out]; rfl, B.out⟩

theorem central_any (s : St) (w : World) : Calls Try.prog 60 #[Stv s] w (Back (.bool (cen s)) w) := by
  have B : Hid (Below w.heap.size w (w.alloc (Sto s))) := (Below.refl _ _).alloc (Nat.le_refl _) _
  obtain ⟨e5, hz⟩ := onR_cen s
  obtain ⟨r, hr⟩ : ∃ r, cen s = r := ⟨_, rfl⟩
  rw [hr] at hz ⊢
  obtain ⟨s1, s2, s3, s4⟩ := s
  have H81 : Hid (∀ w, Calls Try.prog 81 #[Sp s3 s4] w (Back (.tuple #[.bool r, .int .i64 e5]) w)) := fun w => by rw [← hz]; exact OnCentre_any s3 s4 w
  clear hz hr
  go_enter Try.func60, Try.ntmps60
  go_wp2_with (go_at_call 81; refine (H81.out _).mono ?_; rintro e w1 ⟨rfl, hb1⟩; replace B := Lib.hid (B.out.trans (hb1.mono B.out.size)); clear hb1)
  go_ret
  exact ⟨rfl, B.out⟩
theorem refcentre (s : St) (w : World) : Calls Try.prog 62 #[Stv s] w (Back (.bool (cen s)) w) := by
  have B : Hid (Below w.heap.size w (w.alloc (Sto s))) := (Below.refl _ _).alloc (Nat.le_refl _) _
  obtain ⟨e5, hz⟩ := onR_cen s
  obtain ⟨r, hr⟩ : ∃ r, cen s = r := ⟨_, rfl⟩
  rw [hr] at hz ⊢
  obtain ⟨s1, s2, s3, s4⟩ := s
  have H81 : Hid (∀ w, Calls Try.prog 83 #[Sp s3 s4] w (Back (.tuple #[.bool r, .int .i64 e5]) w)) := fun w => by rw [← hz]; exact refOnCentre s3 s4 w
  clear hz hr
  go_enter Try.func62, Try.ntmps62
  go_wp2_with (go_at_call 83; refine (H81.out _).mono ?_; rintro e w1 ⟨rfl, hb1⟩; replace B := Lib.hid (B.out.trans (hb1.mono B.out.size)); clear hb1)
  go_ret
  exact ⟨rfl, B.out⟩
theorem refguard (s : St) (w : World) : Calls Try.prog 61 #[Stv s] w (Back (.bool (zn s.x s.y == 1)) w) := by
  have B : Hid (Below w.heap.size w (w.alloc (Sto s))) := (Below.refl _ _).alloc (Nat.le_refl _) _
  obtain ⟨s1, s2, s3, s4⟩ := s
  obtain ⟨e5, hz⟩ := zoneR_zn s3 s4
  obtain ⟨z, hz'⟩ : ∃ z, zn s3 s4 = z := ⟨_, rfl⟩
  rw [hz'] at hz
  show Calls _ _ _ _ (Back (.bool (zn s3 s4 == 1)) w)
  rw [hz']
  have H80 : Hid (∀ w, Calls Try.prog 82 #[Sp s3 s4] w (Back (.tuple #[.int .i64 z, .int .i64 e5]) w)) := fun w => by rw [← hz]; exact refZone s3 s4 w
  clear hz hz'
  go_enter Try.func61, Try.ntmps61
  go_wp2_with (go_at_call 82; refine (H80.out _).mono ?_; rintro e w1 ⟨rfl, hb1⟩; replace B := Lib.hid (B.out.trans (hb1.mono B.out.size)); clear hb1)
  go_ret
  exact ⟨rfl, B.out⟩

set_option maxHeartbeats 1000000 in
theorem keeps_any (c : Cd) (n team : Int) (s : St) (w : World) : Calls Try.prog 35 #[Tnv c n team, Stv s] w (Back (.bool (kpB c n team s)) w) := by
  have B : Hid (Below w.heap.size w ((w.alloc (Tno c n team)).alloc (Sto s))) := ((Below.refl _ _).alloc (Nat.le_refl _) _).alloc (by simp) _
  have H59 := Lib.hid (fun w => guards_any c n team s w)
  obtain ⟨g, hg⟩ : ∃ g, guB team s = g := ⟨_, rfl⟩
  obtain ⟨r, hr⟩ : ∃ r, kpB c n team s = r := ⟨_, rfl⟩
  have HR : Hid ((decide (n < c.s) || (decide (n < c.f) && g)) = r) := by show _ = _; rw [← hg]; exact hr
  rw [hg] at H59
  rw [hr]
  clear hg hr
  obtain ⟨f, t, s', e, p⟩ := c
  obtain ⟨s1, s2, s3, s4⟩ := s
  have HR : Hid ((decide (n < s') || (decide (n < f) && g)) = r) := HR.out
  by_cases h1 : n < s'
  · have HR2 : Hid (r = true) := by show _ = _; rw [← HR.out, decide_eq_true h1]; simp
    clear HR
    go_enter Try.func35, Try.ntmps35
    go_wp2_with (go_at_call 59; refine (H59.out _).mono ?_; rintro e w1 ⟨rfl, hb1⟩; replace B := Lib.hid (B.out.trans (hb1.mono B.out.size)); clear hb1)
    go_ret
    exact ⟨by rw [HR2.out]; rfl, B.out⟩
  · by_cases h2 : n < f
    · have HR2 : Hid (r = g) := by show _ = _; rw [← HR.out, decide_eq_false h1, decide_eq_true h2]; simp
      clear HR
      go_enter Try.func35, Try.ntmps35
      go_wp2_with (go_at_call 59; refine (H59.out _).mono ?_; rintro e w1 ⟨rfl, hb1⟩; replace B := Lib.hid (B.out.trans (hb1.mono B.out.size)); clear hb1)
      go_ret
      exact ⟨by rw [HR2.out]; rfl, B.out⟩
    · have HR2 : Hid (r = false) := by show _ = _; rw [← HR.out, decide_eq_false h1, decide_eq_false h2]; simp
      clear HR
      go_enter Try.func35, Try.ntmps35
      go_wp2_with (go_at_call 59; refine (H59.out _).mono ?_; rintro e w1 ⟨rfl, hb1⟩; replace B := Lib.hid (B.out.trans (hb1.mono B.out.size)); clear hb1)
      go_ret
      exact ⟨by rw [HR2.out]; rfl, B.out⟩

set_option maxHeartbeats 1000000 in
theorem fixes_any (c : Cd) (n team : Int) (s : St) (w : World) : Calls Try.prog 36 #[Tnv c n team, Stv s] w (Back (.bool (fxB c n team s)) w) := by
  have HS := Lib.hid (At4.new (w.alloc (Tno c n team)) s)
  rw [World.size_alloc] at HS
  have B : Hid (Below w.heap.size w ((w.alloc (Tno c n team)).alloc (Sto s))) := ((Below.refl _ _).alloc (Nat.le_refl _) _).alloc (by simp) _
  have H59 := Lib.hid (fun w => guards_any c n team s w)
  have H60 := Lib.hid (fun w => central_any s w)
  obtain ⟨g, hg⟩ : ∃ g, guB team s = g := ⟨_, rfl⟩
  obtain ⟨k, hk⟩ : ∃ k, cen s = k := ⟨_, rfl⟩
  obtain ⟨r, hr⟩ : ∃ r, fxB c n team s = r := ⟨_, rfl⟩
  have HR : Hid ((decide (n < c.t) && g && k) = r) := by show _ = _; rw [← hg, ← hk]; exact hr
  rw [hg] at H59
  rw [hk] at H60
  rw [hr]
  clear hg hk hr
  obtain ⟨f, t, s', e, p⟩ := c
  obtain ⟨s1, s2, s3, s4⟩ := s
  have HR : Hid ((decide (n < t) && g && k) = r) := HR.out
  by_cases h1 : n < t
  · cases g
    all_goals
      have HR2 := HR.out
      rw [decide_eq_true h1] at HR2
      have HR3 := Lib.hid HR2
      clear HR HR2
      go_enter Try.func36, Try.ntmps36
      go_wp2_with (first
        | (go_at_call 59; refine (H59.out _).mono ?_; rintro e w1 ⟨rfl, hb1⟩; replace B := Lib.hid (B.out.trans (hb1.mono B.out.size)); replace HS := Lib.hid (HS.out.up hb1); clear hb1; obtain ⟨a0, a1, a2, a3⟩ := HS.out)
        | (go_at_call 60; refine (H60.out _).mono ?_; rintro e w1 ⟨rfl, hb1⟩; replace B := Lib.hid (B.out.trans (hb1.mono B.out.size)); clear hb1))
      go_ret
      exact ⟨by rw [← HR3.out]; first | rfl | (simp; rfl), B.out⟩
  · have HR2 : Hid (r = false) := by show _ = _; rw [← HR.out, decide_eq_false h1]; simp
    clear HR
    go_enter Try.func36, Try.ntmps36
    go_wp2_with fail
    go_ret
    exact ⟨by rw [HR2.out]; rfl, B.out⟩
end Go.Proofs.Ytomcpgdpjpjioaa
