/- Contracts: Nearest; IndexFunc over numbers, with Count's comparison. -/
import Derived.Test.YtmhlialdbggmdaaGreatDoorT
namespace Go.Proofs.YtmhlialdbggmdaaGreatDoor
open Go.RowKit Go.Proofs Go.Shelf

theorem good_all {l : List St} : ∀ {k : Nat}, k ≤ l.length → goodF (l.take k) (l.drop k) = true → ∀ j (h : j < l.length), k ≤ j → okSt (l[j]'h) := by
  intro k hk
  induction hn : l.length - k generalizing k with
  | zero => intro _ j h1 h2; omega
  | succ n ih =>
    intro hg j h1 h2
    rw [goodF_step (by omega), Bool.and_eq_true, Bool.and_eq_true] at hg
    by_cases e : j = k
    · subst e; exact of_decide_eq_true hg.1.1
    · exact ih (k := k + 1) (by omega) (by omega) hg.2 j h1 (by omega)
theorem chk_facts {l : List St} (h : chkB l = true) : l.length ≤ 16 ∧ ∀ j (h : j < l.length), okSt (l[j]'h) := by
  unfold chkB at h
  rw [Bool.and_eq_true, Bool.and_eq_true] at h
  exact ⟨of_decide_eq_true h.1.1, fun j hj => good_all (k := 0) (Nat.zero_le _) (by simpa using h.1.2) j hj (Nat.zero_le _)⟩
theorem nearest_chk (l : List St) (v : Value) (w : World) (hrow : RowS w v l) (h : chkB l = true) :
    Calls Tryz.prog 65 #[v] w fun e w' => ∃ u d, e = .returned u ∧ IsNear l d ∧ OwnN w.heap.size w' u d ∧ Below w.heap.size w w' := by
  obtain ⟨h1, h2⟩ := chk_facts h
  exact nearest_any l v w hrow (fun j hj => (h2 j hj).2.2) (fun j hj => (h2 j hj).2.1) h1
theorem OwnN.form {base : Nat} {w : World} {v : Value} {d : List Nat} (h : OwnN base w v d) : ∃ A cap, v = .slice A d.length cap := by
  obtain ⟨A, cap, h, -⟩ := h; exact ⟨A, cap, h⟩

theorem Nearest_any (l : List St) (v : Value) (w : World) (hrow : RowS w v l) :
    Calls Tryz.prog 35 #[v] w fun e w' => ((chkB l = false ∧ e = .returned (.tuple #[.slice none 0 0, .int .i64 2])) ∨ (chkB l = true ∧ ∃ u d, e = .returned (.tuple #[u, .int .i64 0]) ∧ IsNear l d ∧ OwnN w.heap.size w' u d)) ∧ Below w.heap.size w w' := by
  have H1 := Lib.hid (fun w h => Check_any l v w h)
  have HR := Lib.hid hrow
  obtain ⟨A, cap, rfl⟩ := hrow.form
  clear hrow
  cases hc : chkB l
  · rw [hc] at H1
    go_enter Tryz.func35, Tryz.ntmps35
    go_wp2_with (go_at_call 28; refine (H1.out _ HR.out).mono ?_; rintro e w1 ⟨rfl, hb1⟩)
    go_ret2
    exact ⟨.inl ⟨by first | rfl | trivial, rfl⟩, hb1⟩
  · rw [hc] at H1
    have H2 := Lib.hid (fun w h => nearest_chk l (.slice A l.length cap) w h hc)
    clear hc
    go_enter Tryz.func35, Tryz.ntmps35
    go_wp2_with (first
      | (go_at_call 28; refine (H1.out _ HR.out).mono ?_; rintro e w1 ⟨rfl, hb1⟩)
      | (go_at_call 65; refine (H2.out _ (HR.out.up hb1)).mono ?_; rintro e w2 ⟨u, d, rfl, hn, ho, hb2⟩; have HO := Lib.hid ho; obtain ⟨A2, cap2, rfl⟩ := ho.form; clear ho))
    go_ret2
    refine ⟨.inr ⟨by first | rfl | trivial, _, d, rfl, hn, ?_⟩, hb1.trans (hb2.mono hb1.size)⟩
    obtain ⟨A3, cap3, h1, h2, h3, h4, h5⟩ := HO.out
    refine ⟨A3, cap3, h1, h2, h3, h4, fun h => ?_⟩
    obtain ⟨g, h6, h7, h8⟩ := h5 h
    exact ⟨g, h6, Nat.le_trans hb1.size h7, h8⟩

set_option maxHeartbeats 1000000 in
theorem idxN (f : FuncId) (caps : Array Value) (p : Nat → Bool) (d : List Nat) (base : Nat) (v : Value) (w : World) (hf : ∀ args w, (callFunc f args).run Tryz.prog w = .ok (.enter f args) w) (hrow : OwnN base w v d) (hdl : d.length ≤ 1000)
    (hcl : ∀ x ∈ d, ∀ W, Below w.heap.size w W → Calls Tryz.prog f (#[pv x] ++ caps) W (Back (.bool (p x)) W)) :
    Calls Tryz.prog 66 #[v, .func (.func f) #[] caps] w (Back (.int .i64 (fidx p d)) w) := by
  have HC := Lib.hid hcl
  obtain ⟨A, cap, rfl, hlc, hcap, -, hcells⟩ := hrow
  have HR := Lib.hid hcells
  clear hcl hcells
  go_enter Tryz.func66, Tryz.ntmps66
  go_wp2_with fail
  go_loopw [8] (fun iv wr => ∃ k : Nat, k ≤ d.length ∧ iv = .int .i64 k ∧ Hid (∀ j (hj : j < k) (h : j < d.length), p (d[j]'h) = false) ∧ Below w.heap.size w wr) (fun iv _ => d.length - (intOf iv).toNat)
  case atStart => exact ⟨0, by omega, rfl, fun j hj => by omega, Below.refl _ _⟩
  case round =>
    obtain ⟨k, hk, rfl, hno, hb⟩ := hrel
    have HB := Lib.hid hb
    have HN := Lib.hid hno.out
    clear hno hb
    by_cases hlt : k < d.length
    · have hlt' : (k : Int) < (d.length : Int) := by omega
      obtain ⟨g, rfl, -, hc⟩ := HR.out (by intro h; subst h; simp at hlt)
      obtain ⟨x, hx⟩ : ∃ x, d[k]'hlt = x := ⟨_, rfl⟩
      have a0 := ((hc.up HB.out) k hlt).1
      rw [hx] at a0
      obtain ⟨q, hq⟩ : ∃ q, p x = q := ⟨_, rfl⟩
      have HQ := Lib.hid hq
      have HX := Lib.hid hx
      have HCk := Lib.hid (HC.out x (by rw [← hx]; exact List.getElem_mem _))
      rw [hq] at HCk
      clear hq hx hc
      go_wp2_with fail
      refine (HCk.out _ HB.out).mono ?_
      rintro e w1 ⟨rfl, hb1⟩
      have HB1 := Lib.hid (HB.out.trans (hb1.mono HB.out.size))
      clear hb1 a0
      cases q
      · go_wp2_with fail
        go_roundw
        case rel =>
          refine ⟨k + 1, by omega, by go_num, fun j hj h => ?_, HB1.out⟩
          by_cases e : j = k
          · subst e; rw [HX.out]; exact HQ.out
          · exact HN.out j (by omega) h
        case measure => simp [intOf]; omega
      · go_wp2_with fail
        go_ret
        exact ⟨ret_i (fidx_at hlt (by rw [HX.out]; exact HQ.out) fun j hj => HN.out j hj (by omega)).symm, HB1.out⟩
    · obtain rfl : k = d.length := by omega
      go_wp2_with fail
      go_ret
      exact ⟨ret_i (fidx_none fun j hj => HN.out j hj hj).symm, HB.out⟩

/-- The teams of a list's stones. -/
def teamAt (l : List St) (i : Nat) : Int := match l[i]? with | some s => s.t | none => 0
theorem cl67 (pl pt : Nat) (l : List St) (v : Value) (i : Nat) (t : Int) (w : World) (hv : w.cell? ⟨pl, 0, none⟩ = some v) (ht : w.cell? ⟨pt, 0, none⟩ = some (.int .i64 t)) (hrow : RowS w v l) (hi : i < l.length) :
    Calls Tryz.prog 67 #[pv i, .pointer (some ⟨pl, 0, none⟩), .pointer (some ⟨pt, 0, none⟩)] w (Back (.bool (teamAt l i != t)) w) := by
  obtain ⟨A, cap, rfl, hlc, ⟨hcap, -⟩, hcells⟩ := hrow
  obtain ⟨b, o, rfl, hc⟩ := hcells (by intro h; subst h; simp at hi)
  have hA := (hc i hi).1
  have e : teamAt l i = (l[i]'hi).t := by unfold teamAt; rw [List.getElem?_eq_getElem hi]
  rw [e]
  obtain ⟨q, hq⟩ : ∃ q, (l[i]'hi).t = q := ⟨_, rfl⟩
  rw [hq] at hA ⊢
  have hi' : (i : Int) < (l.length : Int) := by omega
  clear hcells hc e hq
  go_enter Tryz.func67, Tryz.ntmps67
  go_wp2_with fail
  go_quiet (fail)
  go_wp2_with fail
  go_ret
  exact ⟨rfl, below_drewN (Below.refl _ _) _⟩
end Go.Proofs.YtmhlialdbggmdaaGreatDoor
