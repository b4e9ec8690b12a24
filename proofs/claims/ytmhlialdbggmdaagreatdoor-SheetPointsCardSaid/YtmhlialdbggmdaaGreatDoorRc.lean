/- Contract: the document's Count. -/
import Derived.Test.YtmhlialdbggmdaaGreatDoorRn
namespace Go.Proofs.YtmhlialdbggmdaaGreatDoor
open Go.RowKit Go.Proofs Go.Shelf

/-- The square of the distance of a team's nearest stone in the house, among the first k. -/
def bT (l : List St) (t : Int) : Nat → Option Int
  | 0 => none
  | k + 1 => if (teamAt l k = t ∧ k ∈ hIdx l) ∧ (bT l t k = none ∨ sqAt l k < (bT l t k).getD 0) then some (sqAt l k) else bT l t k

set_option maxRecDepth 100000 in
set_option maxHeartbeats 4000000 in
theorem best_any (l : List St) (v : Value) (t : Int) (w : World) (hrow : RowS w v l) (hok : ∀ j (h : j < l.length), okSt (l[j]'h)) (h16 : l.length ≤ 16) :
    Calls Tryz.prog 71 #[v, .int .i64 t] w (Back (.tuple #[.int .i64 ((bT l t l.length).getD 0), .bool (bT l t l.length).isSome]) w) := by
  obtain ⟨A, cap, rfl, hlc, ⟨hcap, -⟩, hcells⟩ := hrow
  have HC := Lib.hid hcells
  have HF := Lib.hid hok
  clear hcells hok
  go_enter Tryz.func71, Tryz.ntmps71
  go_wp2_with fail
  go_loopw [6, 7, 8] (fun b sm iv wr => ∃ i : Nat, i ≤ l.length ∧ iv = .int .i64 i ∧ b = .int .i64 ((bT l t i).getD 0) ∧ sm = .bool (bT l t i).isSome ∧ Hid (Below w.heap.size w wr)) (fun _ _ iv _ => l.length - (intOf iv).toNat)
  case atStart => exact ⟨0, by omega, rfl, rfl, rfl, Below.refl _ _⟩
  case round =>
    obtain ⟨i, hil, rfl, rfl, rfl, hbi⟩ := hrel
    have HI := Lib.hid hbi.out
    clear hbi
    by_cases hlt : i < l.length
    · have hlt' : (i : Int) < (l.length : Int) := by omega
      obtain ⟨b, o, rfl, hc⟩ := HC.out (by intro h; subst h; simp at hlt)
      have HA := Lib.hid ((hc i hlt).up HI.out)
      have hst := HF.out i hlt
      have hmem := mem_hIdx hlt
      have hsq := sqAt_get hlt
      have hte : teamAt l i = (l[i]'hlt).t := by unfold teamAt; rw [List.getElem?_eq_getElem hlt]
      have hstep : bT l t (i + 1) = if (teamAt l i = t ∧ i ∈ hIdx l) ∧ (bT l t i = none ∨ sqAt l i < (bT l t i).getD 0) then some (sqAt l i) else bT l t i := rfl
      obtain ⟨s, hs⟩ : ∃ s, l[i]'hlt = s := ⟨_, rfl⟩
      rw [hs] at HA hst hmem hsq hte
      obtain ⟨q, hq⟩ : ∃ q, bT l t i = q := ⟨_, rfl⟩
      rw [hq] at hstep ⊢
      obtain ⟨a0, a1, a2, a3⟩ := HA.out
      have HST := Lib.hid hstep
      have HSQ := Lib.hid hsq
      have HTE := Lib.hid hte
      have H32 : Hid (∀ w, Calls Tryz.prog 32 #[.agg #[.int .i64 s.x, .int .i64 s.y]] w (Back (.bool (decide (InH s.x s.y))) w)) := fun w => refInHouse s.x s.y w hst.2.1
      have H33 : Hid (∀ w, Calls Tryz.prog 33 #[.agg #[.int .i64 s.x, .int .i64 s.y]] w (Back (.int .i64 (sqAt l i)) w)) := fun w => by rw [HSQ.out]; exact refSquare s.x s.y w (sqd_bound hst.2.2)
      obtain ⟨p, hp⟩ : ∃ p, sqAt l i = p := ⟨_, rfl⟩
      rw [hp] at H33
      have HP := Lib.hid hp
      obtain ⟨st, hstt⟩ : ∃ x, s.t = x := ⟨_, rfl⟩
      rw [hstt] at a0 HTE
      have q0 : ∀ X : BW wr, X.to.cell? ⟨b, o + i * 4, none⟩ = some (.int .i64 st) := fun X => upc a0 X.same
      have q1 : ∀ X : BW wr, X.to.cell? ⟨b, o + i * 4 + 2, none⟩ = some (.int .i64 s.x) := fun X => upc a2 X.same
      have q2 : ∀ X : BW wr, X.to.cell? ⟨b, o + i * 4 + 3, none⟩ = some (.int .i64 s.y) := fun X => upc a3 X.same
      clear hs hst hsq hq hstep HA a1 hp hc hte hstt
      clear q0 q1 q2
      by_cases h1 : st = t
      · have h1' : (st == t) = true := by simpa using h1
        by_cases h2 : InH s.x s.y
        · rw [decide_eq_true h2] at H32
          cases q with
          | none =>
            have hres : Hid (bT l t (i + 1) = some p) := by show _ = _; rw [HST.out, if_pos ⟨⟨HTE.out.trans h1, hmem.2 h2⟩, .inl rfl⟩, HP.out]
            clear hmem h1 h2 HST HTE
            go_wp2_with (first
              | (go_at_call 32; refine (H32.out _).mono ?_; rintro e w2 ⟨rfl, hb2⟩; replace a0 := upc a0 hb2; replace a2 := upc a2 hb2; replace a3 := upc a3 hb2; replace HI := Lib.hid (HI.out.trans (hb2.mono HI.out.size)); clear hb2)
              | (go_at_call 33; refine (H33.out _).mono ?_; rintro e w3 ⟨rfl, hb2⟩; replace a2 := upc a2 hb2; replace a3 := upc a3 hb2; replace HI := Lib.hid (HI.out.trans (hb2.mono HI.out.size)); clear hb2))
            go_roundw
            case rel => exact ⟨i + 1, by omega, by go_num, by rw [hres.out]; rfl, by rw [hres.out]; rfl, HI.out⟩
            case measure => simp [intOf]; omega
          | some m =>
            by_cases h4 : p < m
            · have hres : Hid (bT l t (i + 1) = some p) := by show _ = _; rw [HST.out, if_pos ⟨⟨HTE.out.trans h1, hmem.2 h2⟩, .inr (by rw [HP.out]; exact h4)⟩, HP.out]
              have h4' : decide (p < m) = true := by simpa using h4
              clear hmem h1 h2 HST HTE
              go_wp2_with (first
                | (go_at_call 32; refine (H32.out _).mono ?_; rintro e w2 ⟨rfl, hb2⟩; replace a0 := upc a0 hb2; replace a2 := upc a2 hb2; replace a3 := upc a3 hb2; replace HI := Lib.hid (HI.out.trans (hb2.mono HI.out.size)); clear hb2)
                | (go_at_call 33; refine (H33.out _).mono ?_; rintro e w3 ⟨rfl, hb2⟩; replace a2 := upc a2 hb2; replace a3 := upc a3 hb2; replace HI := Lib.hid (HI.out.trans (hb2.mono HI.out.size)); clear hb2))
              go_roundw
              case rel => exact ⟨i + 1, by omega, by go_num, by rw [hres.out]; rfl, by rw [hres.out]; rfl, HI.out⟩
              case measure => simp [intOf]; omega
            · have hres : Hid (bT l t (i + 1) = some m) := by
                show _ = _; rw [HST.out, if_neg (fun h => by
                  rcases h.2 with h5 | h5
                  · cases h5
                  · rw [HP.out] at h5; exact h4 h5)]
              have h4' : decide (p < m) = false := by simpa using h4
              clear hmem h1 h2 HST HTE
              go_wp2_with (first
                | (go_at_call 32; refine (H32.out _).mono ?_; rintro e w2 ⟨rfl, hb2⟩; replace a0 := upc a0 hb2; replace a2 := upc a2 hb2; replace a3 := upc a3 hb2; replace HI := Lib.hid (HI.out.trans (hb2.mono HI.out.size)); clear hb2)
                | (go_at_call 33; refine (H33.out _).mono ?_; rintro e w3 ⟨rfl, hb2⟩; replace a2 := upc a2 hb2; replace a3 := upc a3 hb2; replace HI := Lib.hid (HI.out.trans (hb2.mono HI.out.size)); clear hb2))
              go_roundw
              case rel => exact ⟨i + 1, by omega, by go_num, by rw [hres.out]; rfl, by rw [hres.out]; rfl, HI.out⟩
              case measure => simp [intOf]; omega
        · rw [decide_eq_false h2] at H32
          have hres : Hid (bT l t (i + 1) = q) := by show _ = _; rw [HST.out, if_neg (fun h => h2 (hmem.1 h.1.2))]
          clear hmem h1 h2 HST HTE
          go_wp2_with (first
            | (go_at_call 32; refine (H32.out _).mono ?_; rintro e w2 ⟨rfl, hb2⟩; replace a0 := upc a0 hb2; replace a2 := upc a2 hb2; replace a3 := upc a3 hb2; replace HI := Lib.hid (HI.out.trans (hb2.mono HI.out.size)); clear hb2)
            | (go_at_call 33; refine (H33.out _).mono ?_; rintro e w3 ⟨rfl, hb2⟩; replace a2 := upc a2 hb2; replace a3 := upc a3 hb2; replace HI := Lib.hid (HI.out.trans (hb2.mono HI.out.size)); clear hb2))
          go_roundw
          case rel => exact ⟨i + 1, by omega, by go_num, by rw [hres.out], by rw [hres.out], HI.out⟩
          case measure => simp [intOf]; omega
      · have h1' : (st == t) = false := by simpa using h1
        have hres : Hid (bT l t (i + 1) = q) := by show _ = _; rw [HST.out, if_neg (fun h => h1 (HTE.out.symm.trans h.1.1))]
        clear hmem h1 HST HTE
        go_wp2_with (first
          | (go_at_call 32; refine (H32.out _).mono ?_; rintro e w2 ⟨rfl, hb2⟩; replace a0 := upc a0 hb2; replace a2 := upc a2 hb2; replace a3 := upc a3 hb2; replace HI := Lib.hid (HI.out.trans (hb2.mono HI.out.size)); clear hb2)
          | (go_at_call 33; refine (H33.out _).mono ?_; rintro e w3 ⟨rfl, hb2⟩; replace a2 := upc a2 hb2; replace a3 := upc a3 hb2; replace HI := Lib.hid (HI.out.trans (hb2.mono HI.out.size)); clear hb2))
        go_roundw
        case rel => exact ⟨i + 1, by omega, by go_num, by rw [hres.out], by rw [hres.out], HI.out⟩
        case measure => simp [intOf]; omega
    · obtain rfl : i = l.length := by omega
      go_wp2_with fail
      refine bodyPost_ret (results_tmp2 rfl _ _ _) rfl ?_
      exact ⟨rfl, HI.out⟩

/-- How many of the first k stones are a team's, in the house, and nearer than a limit. -/
def cK (l : List St) (t : Int) (lim : Option Int) : Nat → Nat
  | 0 => 0
  | k + 1 => cK l t lim k + if (teamAt l k = t ∧ k ∈ hIdx l) ∧ (lim = none ∨ sqAt l k < lim.getD 0) then 1 else 0
theorem cK_le (l : List St) (t : Int) (lim : Option Int) : ∀ k, cK l t lim k ≤ k
  | 0 => Nat.le_refl _
  | k + 1 => by have := cK_le l t lim k; unfold cK; split <;> omega
/-- Who counts, as the document says it. -/
def refP (l : List St) (x0 x1 : Option Int) : Int × Int :=
  match x0, x1 with
  | none, none => (-1, 0)
  | some _, none => (0, (cK l 0 none l.length : Nat))
  | none, some _ => (1, (cK l 1 none l.length : Nat))
  | some a, some b => if a = b then (-1, 0) else if b < a then (1, (cK l 1 (some a) l.length : Nat)) else (0, (cK l 0 (some b) l.length : Nat))
def refT (l : List St) : Int × Int := refP l (bT l 0 l.length) (bT l 1 l.length)

set_option maxRecDepth 100000 in
set_option maxHeartbeats 4000000 in
theorem refCount (l : List St) (v : Value) (w : World) (hrow : RowS w v l) :
    Calls Tryz.prog 37 #[v] w fun e w' => ((chkB l = false ∧ e = .returned (.tuple #[.int .i64 0, .int .i64 0, .int .i64 2])) ∨ (chkB l = true ∧ e = .returned (cntV (refT l)))) ∧ Below w.heap.size w w' := by
  have H1 := Lib.hid (fun w h => refCheck l v w h)
  have HR := Lib.hid hrow
  obtain ⟨A, cap, rfl, hlc, ⟨hcap, -⟩, hcells⟩ := hrow
  have HC := Lib.hid hcells
  clear hcells
  cases hc : chkB l
  · rw [hc] at H1
    go_enter Tryz.func37, Tryz.ntmps37
    go_wp2_with (go_at_call 29; refine (H1.out _ HR.out).mono ?_; rintro e w1 ⟨rfl, hb1⟩)
    exact bodyPost_ret (v := .tuple #[.int .i64 0, .int .i64 0, .int .i64 2]) (by simp [results, Tryz.results37, go_sem]) rfl ⟨.inl ⟨by first | rfl | trivial, rfl⟩, hb1⟩
  · rw [hc] at H1
    have HF := Lib.hid (chk_facts hc)
    have h16 := HF.out.1
    obtain ⟨x0, hx0⟩ : ∃ x, bT l 0 l.length = x := ⟨_, rfl⟩
    obtain ⟨x1, hx1⟩ : ∃ x, bT l 1 l.length = x := ⟨_, rfl⟩
    have H71 : Hid (∀ W, Below w.heap.size w W → Calls Tryz.prog 71 #[.slice A l.length cap, .int .i64 0] W (Back (.tuple #[.int .i64 (x0.getD 0), .bool x0.isSome]) W)) := fun W hW => by rw [← hx0]; exact best_any l _ 0 W (HR.out.up hW) HF.out.2 HF.out.1
    have H72 : Hid (∀ W, Below w.heap.size w W → Calls Tryz.prog 71 #[.slice A l.length cap, .int .i64 1] W (Back (.tuple #[.int .i64 (x1.getD 0), .bool x1.isSome]) W)) := fun W hW => by rw [← hx1]; exact best_any l _ 1 W (HR.out.up hW) HF.out.2 HF.out.1
    have hT : refT l = refP l x0 x1 := by unfold refT; rw [hx0, hx1]
    clear hc hx0 hx1
    have B : Hid (Below w.heap.size w w) := Below.refl _ _
    have hgo : ∀ (K : Prop), K → K := fun _ h => h
    clear hgo
    rcases x0 with _ | a <;> rcases x1 with _ | b
    · have HR1 : Hid (refT l = (-1, 0)) := hT
      clear hT
      go_enter Tryz.func37, Tryz.ntmps37
      go_wp2_with (first
        | (go_at_call 29; refine (H1.out _ HR.out).mono ?_; rintro e w1 ⟨rfl, hb1⟩; replace B := Lib.hid (B.out.trans hb1); clear hb1)
        | (go_at_call 71; first
          | ((with_reducible refine (H71.out _ B.out).mono ?_); rintro e w2 ⟨rfl, hb2⟩; replace B := Lib.hid (B.out.trans (hb2.mono B.out.size)); clear hb2)
          | ((with_reducible refine (H72.out _ B.out).mono ?_); rintro e w2 ⟨rfl, hb2⟩; replace B := Lib.hid (B.out.trans (hb2.mono B.out.size)); clear hb2)))
      exact bodyPost_ret (v := cntV (refT l)) (by rw [HR1.out]; simp [results, Tryz.results37, go_sem]) rfl ⟨.inr ⟨by first | rfl | trivial, rfl⟩, B.out⟩
    · have HR1 : Hid (refT l = (1, ((cK l 1 none l.length : Nat) : Int))) := hT
      clear hT
      go_enter Tryz.func37, Tryz.ntmps37
      go_wp2_with (first
        | (go_at_call 29; refine (H1.out _ HR.out).mono ?_; rintro e w1 ⟨rfl, hb1⟩; replace B := Lib.hid (B.out.trans hb1); clear hb1)
        | (go_at_call 71; first
          | ((with_reducible refine (H71.out _ B.out).mono ?_); rintro e w2 ⟨rfl, hb2⟩; replace B := Lib.hid (B.out.trans (hb2.mono B.out.size)); clear hb2)
          | ((with_reducible refine (H72.out _ B.out).mono ?_); rintro e w2 ⟨rfl, hb2⟩; replace B := Lib.hid (B.out.trans (hb2.mono B.out.size)); clear hb2)))
      go_loopw [12, 13] (fun nv iv wr => ∃ i : Nat, i ≤ l.length ∧ iv = .int .i64 i ∧ nv = .int .i64 (cK l 1 none i : Nat) ∧ Hid (Below w.heap.size w wr)) (fun _ iv _ => l.length - (intOf iv).toNat)
      case atStart => exact ⟨0, by omega, rfl, rfl, B⟩
      case round =>
        obtain ⟨i, hil, rfl, rfl, hbi⟩ := hrel
        have HI := Lib.hid hbi.out
        clear hbi
        have hck := cK_le l 1 none i
        by_cases hlt : i < l.length
        · have hlt' : (i : Int) < (l.length : Int) := by omega
          obtain ⟨bk, o, rfl, hc⟩ := HC.out (by intro h; subst h; simp at hlt)
          have HA := Lib.hid ((hc i hlt).up HI.out)
          have hst := HF.out.2 i hlt
          have hmem := mem_hIdx hlt
          have hsq := sqAt_get hlt
          have hte : teamAt l i = (l[i]'hlt).t := by unfold teamAt; rw [List.getElem?_eq_getElem hlt]
          have hstep : cK l 1 none (i + 1) = cK l 1 none i + if (teamAt l i = 1 ∧ i ∈ hIdx l) ∧ (none = none ∨ sqAt l i < (none).getD 0) then 1 else 0 := rfl
          obtain ⟨s, hs⟩ : ∃ s, l[i]'hlt = s := ⟨_, rfl⟩
          rw [hs] at HA hst hmem hsq hte
          obtain ⟨c, hcc⟩ : ∃ c, cK l 1 none i = c := ⟨_, rfl⟩
          rw [hcc] at hstep hck ⊢
          obtain ⟨a0, a1, a2, a3⟩ := HA.out
          have HST := Lib.hid hstep
          have HSQ := Lib.hid hsq
          have HTE := Lib.hid hte
          have H32 : Hid (∀ w, Calls Tryz.prog 32 #[.agg #[.int .i64 s.x, .int .i64 s.y]] w (Back (.bool (decide (InH s.x s.y))) w)) := fun w => refInHouse s.x s.y w hst.2.1
          have H33 : Hid (∀ w, Calls Tryz.prog 33 #[.agg #[.int .i64 s.x, .int .i64 s.y]] w (Back (.int .i64 (sqAt l i)) w)) := fun w => by rw [HSQ.out]; exact refSquare s.x s.y w (sqd_bound hst.2.2)
          obtain ⟨p, hp⟩ : ∃ p, sqAt l i = p := ⟨_, rfl⟩
          rw [hp] at H33
          have HP := Lib.hid hp
          obtain ⟨st, hstt⟩ : ∃ x, s.t = x := ⟨_, rfl⟩
          rw [hstt] at a0 HTE
          clear hs hst hsq hstep HA a1 hp hc hte hstt hcc
          by_cases h1 : st = 1
          · have h1' : (st == (1 : Int)) = true := by simpa using h1
            by_cases h2 : InH s.x s.y
            · rw [decide_eq_true h2] at H32
              have hres : Hid (cK l 1 none (i + 1) = c + 1) := by show _ = _; rw [HST.out, if_pos ⟨⟨HTE.out.trans h1, hmem.2 h2⟩, .inl rfl⟩]
              clear hmem h1 h2 HST HTE
              go_wp2_with (first
                | (go_at_call 32; refine (H32.out _).mono ?_; rintro e w2 ⟨rfl, hb2⟩; replace a0 := upc a0 hb2; replace a2 := upc a2 hb2; replace a3 := upc a3 hb2; replace HI := Lib.hid (HI.out.trans (hb2.mono HI.out.size)); clear hb2)
                | (go_at_call 33; refine (H33.out _).mono ?_; rintro e w3 ⟨rfl, hb2⟩; replace a2 := upc a2 hb2; replace a3 := upc a3 hb2; replace HI := Lib.hid (HI.out.trans (hb2.mono HI.out.size)); clear hb2))
              go_roundw
              case rel => exact ⟨i + 1, by omega, by go_num, by rw [hres.out] <;> go_num, HI.out⟩
              case measure => simp [intOf]; omega
            · rw [decide_eq_false h2] at H32
              have hres : Hid (cK l 1 none (i + 1) = c) := by show _ = _; rw [HST.out, if_neg (fun h => h2 (hmem.1 h.1.2)), Nat.add_zero]
              clear hmem h1 h2 HST HTE
              go_wp2_with (first
                | (go_at_call 32; refine (H32.out _).mono ?_; rintro e w2 ⟨rfl, hb2⟩; replace a0 := upc a0 hb2; replace a2 := upc a2 hb2; replace a3 := upc a3 hb2; replace HI := Lib.hid (HI.out.trans (hb2.mono HI.out.size)); clear hb2)
                | (go_at_call 33; refine (H33.out _).mono ?_; rintro e w3 ⟨rfl, hb2⟩; replace a2 := upc a2 hb2; replace a3 := upc a3 hb2; replace HI := Lib.hid (HI.out.trans (hb2.mono HI.out.size)); clear hb2))
              go_roundw
              case rel => exact ⟨i + 1, by omega, by go_num, by rw [hres.out] <;> go_num, HI.out⟩
              case measure => simp [intOf]; omega
          · have h1' : (st == (1 : Int)) = false := by simpa using h1
            have hres : Hid (cK l 1 none (i + 1) = c) := by show _ = _; rw [HST.out, if_neg (fun h => h1 (HTE.out.symm.trans h.1.1)), Nat.add_zero]
            clear hmem h1 HST HTE
            go_wp2_with (first
              | (go_at_call 32; refine (H32.out _).mono ?_; rintro e w2 ⟨rfl, hb2⟩; replace a0 := upc a0 hb2; replace a2 := upc a2 hb2; replace a3 := upc a3 hb2; replace HI := Lib.hid (HI.out.trans (hb2.mono HI.out.size)); clear hb2)
              | (go_at_call 33; refine (H33.out _).mono ?_; rintro e w3 ⟨rfl, hb2⟩; replace a2 := upc a2 hb2; replace a3 := upc a3 hb2; replace HI := Lib.hid (HI.out.trans (hb2.mono HI.out.size)); clear hb2))
            go_roundw
            case rel => exact ⟨i + 1, by omega, by go_num, by rw [hres.out] <;> go_num, HI.out⟩
            case measure => simp [intOf]; omega
        · obtain rfl : i = l.length := by omega
          go_wp2_with fail
          refine bodyPost_ret (v := cntV (refT l)) (by rw [HR1.out]; simp [results, Tryz.results37, go_sem]) rfl ⟨.inr ⟨by first | rfl | trivial, rfl⟩, HI.out⟩
    · have HR1 : Hid (refT l = (0, ((cK l 0 none l.length : Nat) : Int))) := hT
      clear hT
      go_enter Tryz.func37, Tryz.ntmps37
      go_wp2_with (first
        | (go_at_call 29; refine (H1.out _ HR.out).mono ?_; rintro e w1 ⟨rfl, hb1⟩; replace B := Lib.hid (B.out.trans hb1); clear hb1)
        | (go_at_call 71; first
          | ((with_reducible refine (H71.out _ B.out).mono ?_); rintro e w2 ⟨rfl, hb2⟩; replace B := Lib.hid (B.out.trans (hb2.mono B.out.size)); clear hb2)
          | ((with_reducible refine (H72.out _ B.out).mono ?_); rintro e w2 ⟨rfl, hb2⟩; replace B := Lib.hid (B.out.trans (hb2.mono B.out.size)); clear hb2)))
      go_loopw [12, 13] (fun nv iv wr => ∃ i : Nat, i ≤ l.length ∧ iv = .int .i64 i ∧ nv = .int .i64 (cK l 0 none i : Nat) ∧ Hid (Below w.heap.size w wr)) (fun _ iv _ => l.length - (intOf iv).toNat)
      case atStart => exact ⟨0, by omega, rfl, rfl, B⟩
      case round =>
        obtain ⟨i, hil, rfl, rfl, hbi⟩ := hrel
        have HI := Lib.hid hbi.out
        clear hbi
        have hck := cK_le l 0 none i
        by_cases hlt : i < l.length
        · have hlt' : (i : Int) < (l.length : Int) := by omega
          obtain ⟨bk, o, rfl, hc⟩ := HC.out (by intro h; subst h; simp at hlt)
          have HA := Lib.hid ((hc i hlt).up HI.out)
          have hst := HF.out.2 i hlt
          have hmem := mem_hIdx hlt
          have hsq := sqAt_get hlt
          have hte : teamAt l i = (l[i]'hlt).t := by unfold teamAt; rw [List.getElem?_eq_getElem hlt]
          have hstep : cK l 0 none (i + 1) = cK l 0 none i + if (teamAt l i = 0 ∧ i ∈ hIdx l) ∧ (none = none ∨ sqAt l i < (none).getD 0) then 1 else 0 := rfl
          obtain ⟨s, hs⟩ : ∃ s, l[i]'hlt = s := ⟨_, rfl⟩
          rw [hs] at HA hst hmem hsq hte
          obtain ⟨c, hcc⟩ : ∃ c, cK l 0 none i = c := ⟨_, rfl⟩
          rw [hcc] at hstep hck ⊢
          obtain ⟨a0, a1, a2, a3⟩ := HA.out
          have HST := Lib.hid hstep
          have HSQ := Lib.hid hsq
          have HTE := Lib.hid hte
          have H32 : Hid (∀ w, Calls Tryz.prog 32 #[.agg #[.int .i64 s.x, .int .i64 s.y]] w (Back (.bool (decide (InH s.x s.y))) w)) := fun w => refInHouse s.x s.y w hst.2.1
          have H33 : Hid (∀ w, Calls Tryz.prog 33 #[.agg #[.int .i64 s.x, .int .i64 s.y]] w (Back (.int .i64 (sqAt l i)) w)) := fun w => by rw [HSQ.out]; exact refSquare s.x s.y w (sqd_bound hst.2.2)
          obtain ⟨p, hp⟩ : ∃ p, sqAt l i = p := ⟨_, rfl⟩
          rw [hp] at H33
          have HP := Lib.hid hp
          obtain ⟨st, hstt⟩ : ∃ x, s.t = x := ⟨_, rfl⟩
          rw [hstt] at a0 HTE
          clear hs hst hsq hstep HA a1 hp hc hte hstt hcc
          by_cases h1 : st = 0
          · have h1' : (st == (0 : Int)) = true := by simpa using h1
            by_cases h2 : InH s.x s.y
            · rw [decide_eq_true h2] at H32
              have hres : Hid (cK l 0 none (i + 1) = c + 1) := by show _ = _; rw [HST.out, if_pos ⟨⟨HTE.out.trans h1, hmem.2 h2⟩, .inl rfl⟩]
              clear hmem h1 h2 HST HTE
              go_wp2_with (first
                | (go_at_call 32; refine (H32.out _).mono ?_; rintro e w2 ⟨rfl, hb2⟩; replace a0 := upc a0 hb2; replace a2 := upc a2 hb2; replace a3 := upc a3 hb2; replace HI := Lib.hid (HI.out.trans (hb2.mono HI.out.size)); clear hb2)
                | (go_at_call 33; refine (H33.out _).mono ?_; rintro e w3 ⟨rfl, hb2⟩; replace a2 := upc a2 hb2; replace a3 := upc a3 hb2; replace HI := Lib.hid (HI.out.trans (hb2.mono HI.out.size)); clear hb2))
              go_roundw
              case rel => exact ⟨i + 1, by omega, by go_num, by rw [hres.out] <;> go_num, HI.out⟩
              case measure => simp [intOf]; omega
            · rw [decide_eq_false h2] at H32
              have hres : Hid (cK l 0 none (i + 1) = c) := by show _ = _; rw [HST.out, if_neg (fun h => h2 (hmem.1 h.1.2)), Nat.add_zero]
              clear hmem h1 h2 HST HTE
              go_wp2_with (first
                | (go_at_call 32; refine (H32.out _).mono ?_; rintro e w2 ⟨rfl, hb2⟩; replace a0 := upc a0 hb2; replace a2 := upc a2 hb2; replace a3 := upc a3 hb2; replace HI := Lib.hid (HI.out.trans (hb2.mono HI.out.size)); clear hb2)
                | (go_at_call 33; refine (H33.out _).mono ?_; rintro e w3 ⟨rfl, hb2⟩; replace a2 := upc a2 hb2; replace a3 := upc a3 hb2; replace HI := Lib.hid (HI.out.trans (hb2.mono HI.out.size)); clear hb2))
              go_roundw
              case rel => exact ⟨i + 1, by omega, by go_num, by rw [hres.out] <;> go_num, HI.out⟩
              case measure => simp [intOf]; omega
          · have h1' : (st == (0 : Int)) = false := by simpa using h1
            have hres : Hid (cK l 0 none (i + 1) = c) := by show _ = _; rw [HST.out, if_neg (fun h => h1 (HTE.out.symm.trans h.1.1)), Nat.add_zero]
            clear hmem h1 HST HTE
            go_wp2_with (first
              | (go_at_call 32; refine (H32.out _).mono ?_; rintro e w2 ⟨rfl, hb2⟩; replace a0 := upc a0 hb2; replace a2 := upc a2 hb2; replace a3 := upc a3 hb2; replace HI := Lib.hid (HI.out.trans (hb2.mono HI.out.size)); clear hb2)
              | (go_at_call 33; refine (H33.out _).mono ?_; rintro e w3 ⟨rfl, hb2⟩; replace a2 := upc a2 hb2; replace a3 := upc a3 hb2; replace HI := Lib.hid (HI.out.trans (hb2.mono HI.out.size)); clear hb2))
            go_roundw
            case rel => exact ⟨i + 1, by omega, by go_num, by rw [hres.out] <;> go_num, HI.out⟩
            case measure => simp [intOf]; omega
        · obtain rfl : i = l.length := by omega
          go_wp2_with fail
          refine bodyPost_ret (v := cntV (refT l)) (by rw [HR1.out]; simp [results, Tryz.results37, go_sem]) rfl ⟨.inr ⟨by first | rfl | trivial, rfl⟩, HI.out⟩
    · by_cases hab : a = b
      · subst hab
        have HR1 : Hid (refT l = (-1, 0)) := by show _ = _; rw [hT]; exact if_pos rfl
        clear hT
        go_enter Tryz.func37, Tryz.ntmps37
        go_wp2_with (first
          | (go_at_call 29; refine (H1.out _ HR.out).mono ?_; rintro e w1 ⟨rfl, hb1⟩; replace B := Lib.hid (B.out.trans hb1); clear hb1)
          | (go_at_call 71; first
            | ((with_reducible refine (H71.out _ B.out).mono ?_); rintro e w2 ⟨rfl, hb2⟩; replace B := Lib.hid (B.out.trans (hb2.mono B.out.size)); clear hb2)
            | ((with_reducible refine (H72.out _ B.out).mono ?_); rintro e w2 ⟨rfl, hb2⟩; replace B := Lib.hid (B.out.trans (hb2.mono B.out.size)); clear hb2)))
        exact bodyPost_ret (v := cntV (refT l)) (by rw [HR1.out]; simp [results, Tryz.results37, go_sem]) rfl ⟨.inr ⟨by first | rfl | trivial, rfl⟩, B.out⟩
      · have hab' : (a == b) = false := by simpa using hab
        by_cases hba : b < a
        · have HR1 : Hid (refT l = (1, ((cK l 1 (some a) l.length : Nat) : Int))) := by show _ = _; rw [hT]; exact (if_neg hab).trans (if_pos hba)
          have hba' : decide (b < a) = true := by simpa using hba
          clear hT hab hba
          go_enter Tryz.func37, Tryz.ntmps37
          go_wp2_with (first
            | (go_at_call 29; refine (H1.out _ HR.out).mono ?_; rintro e w1 ⟨rfl, hb1⟩; replace B := Lib.hid (B.out.trans hb1); clear hb1)
            | (go_at_call 71; first
              | ((with_reducible refine (H71.out _ B.out).mono ?_); rintro e w2 ⟨rfl, hb2⟩; replace B := Lib.hid (B.out.trans (hb2.mono B.out.size)); clear hb2)
              | ((with_reducible refine (H72.out _ B.out).mono ?_); rintro e w2 ⟨rfl, hb2⟩; replace B := Lib.hid (B.out.trans (hb2.mono B.out.size)); clear hb2)))
          go_loopw [12, 13] (fun nv iv wr => ∃ i : Nat, i ≤ l.length ∧ iv = .int .i64 i ∧ nv = .int .i64 (cK l 1 (some a) i : Nat) ∧ Hid (Below w.heap.size w wr)) (fun _ iv _ => l.length - (intOf iv).toNat)
          case atStart => exact ⟨0, by omega, rfl, rfl, B⟩
          case round =>
            obtain ⟨i, hil, rfl, rfl, hbi⟩ := hrel
            have HI := Lib.hid hbi.out
            clear hbi
            have hck := cK_le l 1 (some a) i
            by_cases hlt : i < l.length
            · have hlt' : (i : Int) < (l.length : Int) := by omega
              obtain ⟨bk, o, rfl, hc⟩ := HC.out (by intro h; subst h; simp at hlt)
              have HA := Lib.hid ((hc i hlt).up HI.out)
              have hst := HF.out.2 i hlt
              have hmem := mem_hIdx hlt
              have hsq := sqAt_get hlt
              have hte : teamAt l i = (l[i]'hlt).t := by unfold teamAt; rw [List.getElem?_eq_getElem hlt]
              have hstep : cK l 1 (some a) (i + 1) = cK l 1 (some a) i + if (teamAt l i = 1 ∧ i ∈ hIdx l) ∧ ((some a) = none ∨ sqAt l i < ((some a)).getD 0) then 1 else 0 := rfl
              obtain ⟨s, hs⟩ : ∃ s, l[i]'hlt = s := ⟨_, rfl⟩
              rw [hs] at HA hst hmem hsq hte
              obtain ⟨c, hcc⟩ : ∃ c, cK l 1 (some a) i = c := ⟨_, rfl⟩
              rw [hcc] at hstep hck ⊢
              obtain ⟨a0, a1, a2, a3⟩ := HA.out
              have HST := Lib.hid hstep
              have HSQ := Lib.hid hsq
              have HTE := Lib.hid hte
              have H32 : Hid (∀ w, Calls Tryz.prog 32 #[.agg #[.int .i64 s.x, .int .i64 s.y]] w (Back (.bool (decide (InH s.x s.y))) w)) := fun w => refInHouse s.x s.y w hst.2.1
              have H33 : Hid (∀ w, Calls Tryz.prog 33 #[.agg #[.int .i64 s.x, .int .i64 s.y]] w (Back (.int .i64 (sqAt l i)) w)) := fun w => by rw [HSQ.out]; exact refSquare s.x s.y w (sqd_bound hst.2.2)
              obtain ⟨p, hp⟩ : ∃ p, sqAt l i = p := ⟨_, rfl⟩
              rw [hp] at H33
              have HP := Lib.hid hp
              obtain ⟨st, hstt⟩ : ∃ x, s.t = x := ⟨_, rfl⟩
              rw [hstt] at a0 HTE
              clear hs hst hsq hstep HA a1 hp hc hte hstt hcc
              by_cases h1 : st = 1
              · have h1' : (st == (1 : Int)) = true := by simpa using h1
                by_cases h2 : InH s.x s.y
                · rw [decide_eq_true h2] at H32
                  by_cases h4 : p < a
                  · have hres : Hid (cK l 1 (some a) (i + 1) = c + 1) := by show _ = _; rw [HST.out, if_pos ⟨⟨HTE.out.trans h1, hmem.2 h2⟩, .inr (by rw [HP.out]; exact h4)⟩]
                    have h4' : decide (p < a) = true := by simpa using h4
                    clear hmem h1 h2 HST HTE
                    go_wp2_with (first
                      | (go_at_call 32; refine (H32.out _).mono ?_; rintro e w2 ⟨rfl, hb2⟩; replace a0 := upc a0 hb2; replace a2 := upc a2 hb2; replace a3 := upc a3 hb2; replace HI := Lib.hid (HI.out.trans (hb2.mono HI.out.size)); clear hb2)
                      | (go_at_call 33; refine (H33.out _).mono ?_; rintro e w3 ⟨rfl, hb2⟩; replace a2 := upc a2 hb2; replace a3 := upc a3 hb2; replace HI := Lib.hid (HI.out.trans (hb2.mono HI.out.size)); clear hb2))
                    go_roundw
                    case rel => exact ⟨i + 1, by omega, by go_num, by rw [hres.out] <;> go_num, HI.out⟩
                    case measure => simp [intOf]; omega
                  · have hres : Hid (cK l 1 (some a) (i + 1) = c) := by
                      show _ = _; rw [HST.out, if_neg (fun h => by
                        rcases h.2 with h5 | h5
                        · cases h5
                        · rw [HP.out] at h5; exact h4 h5), Nat.add_zero]
                    have h4' : decide (p < a) = false := by simpa using h4
                    clear hmem h1 h2 HST HTE
                    go_wp2_with (first
                      | (go_at_call 32; refine (H32.out _).mono ?_; rintro e w2 ⟨rfl, hb2⟩; replace a0 := upc a0 hb2; replace a2 := upc a2 hb2; replace a3 := upc a3 hb2; replace HI := Lib.hid (HI.out.trans (hb2.mono HI.out.size)); clear hb2)
                      | (go_at_call 33; refine (H33.out _).mono ?_; rintro e w3 ⟨rfl, hb2⟩; replace a2 := upc a2 hb2; replace a3 := upc a3 hb2; replace HI := Lib.hid (HI.out.trans (hb2.mono HI.out.size)); clear hb2))
                    go_roundw
                    case rel => exact ⟨i + 1, by omega, by go_num, by rw [hres.out] <;> go_num, HI.out⟩
                    case measure => simp [intOf]; omega
                · rw [decide_eq_false h2] at H32
                  have hres : Hid (cK l 1 (some a) (i + 1) = c) := by show _ = _; rw [HST.out, if_neg (fun h => h2 (hmem.1 h.1.2)), Nat.add_zero]
                  clear hmem h1 h2 HST HTE
                  go_wp2_with (first
                    | (go_at_call 32; refine (H32.out _).mono ?_; rintro e w2 ⟨rfl, hb2⟩; replace a0 := upc a0 hb2; replace a2 := upc a2 hb2; replace a3 := upc a3 hb2; replace HI := Lib.hid (HI.out.trans (hb2.mono HI.out.size)); clear hb2)
                    | (go_at_call 33; refine (H33.out _).mono ?_; rintro e w3 ⟨rfl, hb2⟩; replace a2 := upc a2 hb2; replace a3 := upc a3 hb2; replace HI := Lib.hid (HI.out.trans (hb2.mono HI.out.size)); clear hb2))
                  go_roundw
                  case rel => exact ⟨i + 1, by omega, by go_num, by rw [hres.out] <;> go_num, HI.out⟩
                  case measure => simp [intOf]; omega
              · have h1' : (st == (1 : Int)) = false := by simpa using h1
                have hres : Hid (cK l 1 (some a) (i + 1) = c) := by show _ = _; rw [HST.out, if_neg (fun h => h1 (HTE.out.symm.trans h.1.1)), Nat.add_zero]
                clear hmem h1 HST HTE
                go_wp2_with (first
                  | (go_at_call 32; refine (H32.out _).mono ?_; rintro e w2 ⟨rfl, hb2⟩; replace a0 := upc a0 hb2; replace a2 := upc a2 hb2; replace a3 := upc a3 hb2; replace HI := Lib.hid (HI.out.trans (hb2.mono HI.out.size)); clear hb2)
                  | (go_at_call 33; refine (H33.out _).mono ?_; rintro e w3 ⟨rfl, hb2⟩; replace a2 := upc a2 hb2; replace a3 := upc a3 hb2; replace HI := Lib.hid (HI.out.trans (hb2.mono HI.out.size)); clear hb2))
                go_roundw
                case rel => exact ⟨i + 1, by omega, by go_num, by rw [hres.out] <;> go_num, HI.out⟩
                case measure => simp [intOf]; omega
            · obtain rfl : i = l.length := by omega
              go_wp2_with fail
              refine bodyPost_ret (v := cntV (refT l)) (by rw [HR1.out]; simp [results, Tryz.results37, go_sem]) rfl ⟨.inr ⟨by first | rfl | trivial, rfl⟩, HI.out⟩
        · have HR1 : Hid (refT l = (0, ((cK l 0 (some b) l.length : Nat) : Int))) := by show _ = _; rw [hT]; exact (if_neg hab).trans (if_neg hba)
          have hba' : decide (b < a) = false := by simpa using hba
          clear hT hab hba
          go_enter Tryz.func37, Tryz.ntmps37
          go_wp2_with (first
            | (go_at_call 29; refine (H1.out _ HR.out).mono ?_; rintro e w1 ⟨rfl, hb1⟩; replace B := Lib.hid (B.out.trans hb1); clear hb1)
            | (go_at_call 71; first
              | ((with_reducible refine (H71.out _ B.out).mono ?_); rintro e w2 ⟨rfl, hb2⟩; replace B := Lib.hid (B.out.trans (hb2.mono B.out.size)); clear hb2)
              | ((with_reducible refine (H72.out _ B.out).mono ?_); rintro e w2 ⟨rfl, hb2⟩; replace B := Lib.hid (B.out.trans (hb2.mono B.out.size)); clear hb2)))
          go_loopw [12, 13] (fun nv iv wr => ∃ i : Nat, i ≤ l.length ∧ iv = .int .i64 i ∧ nv = .int .i64 (cK l 0 (some b) i : Nat) ∧ Hid (Below w.heap.size w wr)) (fun _ iv _ => l.length - (intOf iv).toNat)
          case atStart => exact ⟨0, by omega, rfl, rfl, B⟩
          case round =>
            obtain ⟨i, hil, rfl, rfl, hbi⟩ := hrel
            have HI := Lib.hid hbi.out
            clear hbi
            have hck := cK_le l 0 (some b) i
            by_cases hlt : i < l.length
            · have hlt' : (i : Int) < (l.length : Int) := by omega
              obtain ⟨bk, o, rfl, hc⟩ := HC.out (by intro h; subst h; simp at hlt)
              have HA := Lib.hid ((hc i hlt).up HI.out)
              have hst := HF.out.2 i hlt
              have hmem := mem_hIdx hlt
              have hsq := sqAt_get hlt
              have hte : teamAt l i = (l[i]'hlt).t := by unfold teamAt; rw [List.getElem?_eq_getElem hlt]
              have hstep : cK l 0 (some b) (i + 1) = cK l 0 (some b) i + if (teamAt l i = 0 ∧ i ∈ hIdx l) ∧ ((some b) = none ∨ sqAt l i < ((some b)).getD 0) then 1 else 0 := rfl
              obtain ⟨s, hs⟩ : ∃ s, l[i]'hlt = s := ⟨_, rfl⟩
              rw [hs] at HA hst hmem hsq hte
              obtain ⟨c, hcc⟩ : ∃ c, cK l 0 (some b) i = c := ⟨_, rfl⟩
              rw [hcc] at hstep hck ⊢
              obtain ⟨a0, a1, a2, a3⟩ := HA.out
              have HST := Lib.hid hstep
              have HSQ := Lib.hid hsq
              have HTE := Lib.hid hte
              have H32 : Hid (∀ w, Calls Tryz.prog 32 #[.agg #[.int .i64 s.x, .int .i64 s.y]] w (Back (.bool (decide (InH s.x s.y))) w)) := fun w => refInHouse s.x s.y w hst.2.1
              have H33 : Hid (∀ w, Calls Tryz.prog 33 #[.agg #[.int .i64 s.x, .int .i64 s.y]] w (Back (.int .i64 (sqAt l i)) w)) := fun w => by rw [HSQ.out]; exact refSquare s.x s.y w (sqd_bound hst.2.2)
              obtain ⟨p, hp⟩ : ∃ p, sqAt l i = p := ⟨_, rfl⟩
              rw [hp] at H33
              have HP := Lib.hid hp
              obtain ⟨st, hstt⟩ : ∃ x, s.t = x := ⟨_, rfl⟩
              rw [hstt] at a0 HTE
              clear hs hst hsq hstep HA a1 hp hc hte hstt hcc
              by_cases h1 : st = 0
              · have h1' : (st == (0 : Int)) = true := by simpa using h1
                by_cases h2 : InH s.x s.y
                · rw [decide_eq_true h2] at H32
                  by_cases h4 : p < b
                  · have hres : Hid (cK l 0 (some b) (i + 1) = c + 1) := by show _ = _; rw [HST.out, if_pos ⟨⟨HTE.out.trans h1, hmem.2 h2⟩, .inr (by rw [HP.out]; exact h4)⟩]
                    have h4' : decide (p < b) = true := by simpa using h4
                    clear hmem h1 h2 HST HTE
                    go_wp2_with (first
                      | (go_at_call 32; refine (H32.out _).mono ?_; rintro e w2 ⟨rfl, hb2⟩; replace a0 := upc a0 hb2; replace a2 := upc a2 hb2; replace a3 := upc a3 hb2; replace HI := Lib.hid (HI.out.trans (hb2.mono HI.out.size)); clear hb2)
                      | (go_at_call 33; refine (H33.out _).mono ?_; rintro e w3 ⟨rfl, hb2⟩; replace a2 := upc a2 hb2; replace a3 := upc a3 hb2; replace HI := Lib.hid (HI.out.trans (hb2.mono HI.out.size)); clear hb2))
                    go_roundw
                    case rel => exact ⟨i + 1, by omega, by go_num, by rw [hres.out] <;> go_num, HI.out⟩
                    case measure => simp [intOf]; omega
                  · have hres : Hid (cK l 0 (some b) (i + 1) = c) := by
                      show _ = _; rw [HST.out, if_neg (fun h => by
                        rcases h.2 with h5 | h5
                        · cases h5
                        · rw [HP.out] at h5; exact h4 h5), Nat.add_zero]
                    have h4' : decide (p < b) = false := by simpa using h4
                    clear hmem h1 h2 HST HTE
                    go_wp2_with (first
                      | (go_at_call 32; refine (H32.out _).mono ?_; rintro e w2 ⟨rfl, hb2⟩; replace a0 := upc a0 hb2; replace a2 := upc a2 hb2; replace a3 := upc a3 hb2; replace HI := Lib.hid (HI.out.trans (hb2.mono HI.out.size)); clear hb2)
                      | (go_at_call 33; refine (H33.out _).mono ?_; rintro e w3 ⟨rfl, hb2⟩; replace a2 := upc a2 hb2; replace a3 := upc a3 hb2; replace HI := Lib.hid (HI.out.trans (hb2.mono HI.out.size)); clear hb2))
                    go_roundw
                    case rel => exact ⟨i + 1, by omega, by go_num, by rw [hres.out] <;> go_num, HI.out⟩
                    case measure => simp [intOf]; omega
                · rw [decide_eq_false h2] at H32
                  have hres : Hid (cK l 0 (some b) (i + 1) = c) := by show _ = _; rw [HST.out, if_neg (fun h => h2 (hmem.1 h.1.2)), Nat.add_zero]
                  clear hmem h1 h2 HST HTE
                  go_wp2_with (first
                    | (go_at_call 32; refine (H32.out _).mono ?_; rintro e w2 ⟨rfl, hb2⟩; replace a0 := upc a0 hb2; replace a2 := upc a2 hb2; replace a3 := upc a3 hb2; replace HI := Lib.hid (HI.out.trans (hb2.mono HI.out.size)); clear hb2)
                    | (go_at_call 33; refine (H33.out _).mono ?_; rintro e w3 ⟨rfl, hb2⟩; replace a2 := upc a2 hb2; replace a3 := upc a3 hb2; replace HI := Lib.hid (HI.out.trans (hb2.mono HI.out.size)); clear hb2))
                  go_roundw
                  case rel => exact ⟨i + 1, by omega, by go_num, by rw [hres.out] <;> go_num, HI.out⟩
                  case measure => simp [intOf]; omega
              · have h1' : (st == (0 : Int)) = false := by simpa using h1
                have hres : Hid (cK l 0 (some b) (i + 1) = c) := by show _ = _; rw [HST.out, if_neg (fun h => h1 (HTE.out.symm.trans h.1.1)), Nat.add_zero]
                clear hmem h1 HST HTE
                go_wp2_with (first
                  | (go_at_call 32; refine (H32.out _).mono ?_; rintro e w2 ⟨rfl, hb2⟩; replace a0 := upc a0 hb2; replace a2 := upc a2 hb2; replace a3 := upc a3 hb2; replace HI := Lib.hid (HI.out.trans (hb2.mono HI.out.size)); clear hb2)
                  | (go_at_call 33; refine (H33.out _).mono ?_; rintro e w3 ⟨rfl, hb2⟩; replace a2 := upc a2 hb2; replace a3 := upc a3 hb2; replace HI := Lib.hid (HI.out.trans (hb2.mono HI.out.size)); clear hb2))
                go_roundw
                case rel => exact ⟨i + 1, by omega, by go_num, by rw [hres.out] <;> go_num, HI.out⟩
                case measure => simp [intOf]; omega
            · obtain rfl : i = l.length := by omega
              go_wp2_with fail
              refine bodyPost_ret (v := cntV (refT l)) (by rw [HR1.out]; simp [results, Tryz.results37, go_sem]) rfl ⟨.inr ⟨by first | rfl | trivial, rfl⟩, HI.out⟩
end Go.Proofs.YtmhlialdbggmdaaGreatDoor
