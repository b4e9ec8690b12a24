/- Contracts: the comparison of nearest; an insertion sort of integers by a comparison. -/
import Derived.Test.YtmhlialdbggmdaaGreatDoorN
namespace Go.Proofs.YtmhlialdbggmdaaGreatDoor
open Go.RowKit Go.Proofs Go.Shelf

/-- The squares of a list's stones. -/
def sqAt (l : List St) (i : Nat) : Int := match l[i]? with | some s => sqd s.x s.y | none => 0
theorem sqAt_get {l : List St} {i : Nat} (h : i < l.length) : sqAt l i = sqd (l[i]'h).x (l[i]'h).y := by
  unfold sqAt; rw [List.getElem?_eq_getElem h]
def cmp3 (a b : Int) : Int := if a < b then -1 else if b < a then 1 else 0

set_option maxHeartbeats 1000000 in
theorem cl84 (pl : Nat) (l : List St) (v : Value) (i k : Nat) (w : World) (hv : w.cell? ⟨pl, 0, none⟩ = some v) (hrow : RowS w v l) (hi : i < l.length) (hk : k < l.length)
    (hp : ∀ j (h : j < l.length), Play (l[j]'h).x (l[j]'h).y) :
    Calls Tryz.prog 84 #[.int .i64 i, .int .i64 k, .pointer (some ⟨pl, 0, none⟩)] w (Back (.int .i64 (cmp3 (sqAt l i) (sqAt l k))) w) := by
  obtain ⟨A, cap, rfl, hlc, ⟨hcap, -⟩, hcells⟩ := hrow
  obtain ⟨b, o, rfl, hc⟩ := hcells (by intro h; subst h; simp at hi)
  have hA := hc i hi; have hB := hc k hk
  have pa := hp i hi; have pb := hp k hk
  rw [sqAt_get hi, sqAt_get hk]
  obtain ⟨s, hs⟩ : ∃ s, l[i]'hi = s := ⟨_, rfl⟩
  obtain ⟨z, hz⟩ : ∃ z, l[k]'hk = z := ⟨_, rfl⟩
  rw [hs] at hA pa ⊢
  rw [hz] at hB pb ⊢
  obtain ⟨s1, s2, s3, s4⟩ := s
  obtain ⟨z1, z2, z3, z4⟩ := z
  have H1 := Lib.hid (fun w => square_any s3 s4 w (sqd_bound pa))
  have H2 := Lib.hid (fun w => square_any z3 z4 w (sqd_bound pb))
  have V0 : ∀ X : BW w, X.to.cell? ⟨pl, 0, none⟩ = some (.slice (some ⟨b, o, none⟩) l.length cap) := fun X => upc hv X.same
  have X2 : ∀ X : BW w, X.to.cell? ⟨b, o + i * 4 + 2, none⟩ = some (.int .i64 s3) := fun X => upc hA.2.2.1 X.same
  have X3 : ∀ X : BW w, X.to.cell? ⟨b, o + i * 4 + 3, none⟩ = some (.int .i64 s4) := fun X => upc hA.2.2.2 X.same
  have Y2 : ∀ X : BW w, X.to.cell? ⟨b, o + k * 4 + 2, none⟩ = some (.int .i64 z3) := fun X => upc hB.2.2.1 X.same
  have Y3 : ∀ X : BW w, X.to.cell? ⟨b, o + k * 4 + 3, none⟩ = some (.int .i64 z4) := fun X => upc hB.2.2.2 X.same
  have hi' : (i : Int) < (l.length : Int) := by omega
  have hk' : (k : Int) < (l.length : Int) := by omega
  obtain ⟨p, hp1⟩ : ∃ p, sqd s3 s4 = p := ⟨_, rfl⟩
  obtain ⟨q, hq1⟩ : ∃ q, sqd z3 z4 = q := ⟨_, rfl⟩
  show Calls _ _ _ _ (Back (.int .i64 (cmp3 (sqd s3 s4) (sqd z3 z4))) w)
  rw [hp1] at H1 ⊢
  rw [hq1] at H2 ⊢
  clear hv hcells hc hA hB pa pb hp hs hz hp1 hq1
  have h3 : (p < q ∧ cmp3 p q = -1) ∨ (¬ p < q ∧ q < p ∧ cmp3 p q = 1) ∨ (¬ p < q ∧ ¬ q < p ∧ cmp3 p q = 0) := by
    unfold cmp3; split
    · exact .inl ⟨by assumption, rfl⟩
    · split
      · exact .inr (.inl ⟨by assumption, by assumption, rfl⟩)
      · exact .inr (.inr ⟨by assumption, by assumption, rfl⟩)
  rcases h3 with ⟨h1, e⟩ | ⟨h1, h2, e⟩ | ⟨h1, h2, e⟩
  all_goals
    rw [e]
    clear e
    go_enter Tryz.func84, Tryz.ntmps84
    go_wp2_with fail
    refine wp_region_quietB (by kernel_rfl) (by kernel_rfl) ?_
    repeat (go_big_quiet_step ((go_at_call 68; first | (with_reducible exact quietB (H1.out _)) | (with_reducible exact quietB (H2.out _)))))
    refine wpQuiet_nil ?_
    rintro _ ⟨⟨wy, hby⟩, rfl⟩
    go_wp2_with fail
    go_ret
    exact ⟨rfl, hby⟩
end Go.Proofs.YtmhlialdbggmdaaGreatDoor
