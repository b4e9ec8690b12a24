/- Walk: RulesMore. -/
import Derived.Test.YtomcpgdpjpjioaaRk
import Derived.Test.YtomcpgdpjpjioaaPa
namespace Go.Proofs.Ytomcpgdpjpjioaa
open Go.RowKit Go.Proofs Go.Shelf
attribute [local go_sem] Oper.semAt_some

/-- A code with more. -/
def cdM (c : Cd) (m0 m1 m2 : Int) : Cd := ⟨min 16 (c.f + m0), min 16 (c.t + m1), min 16 (c.s + m2), c.e, c.p⟩
def nM (n later : Int) : Int := min 16 (max n later)
theorem prE_zero {c : Cd} {n team : Int} {l : List St} : prE c n team l = 0 ↔ ccB c = true ∧ chkB l = true ∧ (0 ≤ team ∧ team ≤ 1) ∧ 0 ≤ n ∧ n ≤ 16 := by
  unfold prE
  split
  · rename_i h
    simp only [Bool.and_eq_true, decide_eq_true_eq] at h
    obtain ⟨⟨h1, h2⟩, h3⟩ := h
    constructor
    · intro h; exact ⟨h1, h2, h3, by by_cases e : 0 ≤ n ∧ n ≤ 16; exact e; rw [if_neg e] at h; cases h⟩
    · rintro ⟨-, -, -, h⟩; rw [if_pos h]
  · rename_i h
    simp only [Bool.and_eq_true, decide_eq_true_eq] at h
    constructor
    · intro h; cases h
    · rintro ⟨h1, h2, h3, -⟩; exact absurd ⟨⟨h1, h2⟩, h3⟩ h
theorem ccB_facts {c : Cd} (h : ccB c = true) : (0 ≤ c.f ∧ c.f ≤ 16) ∧ (0 ≤ c.t ∧ c.t ≤ 16) ∧ (0 ≤ c.s ∧ c.s ≤ 16) := by
  unfold ccB okN at h
  simp only [Bool.and_eq_true, decide_eq_true_eq] at h
  exact ⟨h.1.1.1.1, h.1.1.1.2, h.1.1.2⟩
theorem ccB_more {c : Cd} {m0 m1 m2 : Int} (h : ccB c = true) (h0 : 0 ≤ m0) (h1 : 0 ≤ m1) (h2 : 0 ≤ m2) : ccB (cdM c m0 m1 m2) = true := by
  obtain ⟨a, b, d⟩ := ccB_facts h
  unfold ccB okN cdM at *
  simp only [Bool.and_eq_true, decide_eq_true_eq] at h ⊢
  exact ⟨⟨⟨⟨by omega, by omega⟩, by omega⟩, h.1.2⟩, h.2⟩
/-- Three small numbers. -/
def U3 (w : World) (b : Nat) (m0 m1 m2 : Int) : Prop := w.cell? ⟨b, 0, none⟩ = some (.int .u8 m0) ∧ w.cell? ⟨b, 1, none⟩ = some (.int .u8 m1) ∧ w.cell? ⟨b, 2, none⟩ = some (.int .u8 m2)
theorem U3.up {w w' : World} {b : Nat} {m0 m1 m2 : Int} (h : U3 w b m0 m1 m2) (hb : Below w.heap.size w w') : U3 w' b m0 m1 m2 := ⟨upc h.1 hb, upc h.2.1 hb, upc h.2.2 hb⟩
theorem U3.kept {w w' : World} {b : Nat} {m0 m1 m2 : Int} {row : Option Nat} (h : U3 w b m0 m1 m2) (hg : w.grownBy w' row) (hne : some b ≠ row) : U3 w' b m0 m1 m2 := ⟨hg.cell h.1 hne, hg.cell h.2.1 hne, hg.cell h.2.2 hne⟩
/-- What the first answer gives the two others. -/
theorem more_plain {c : Cd} {n later team m0 m1 m2 : Int} {l : List St} (hE : prE c n team l = 0) (h0 : 0 ≤ m0) (h1 : 0 ≤ m1) (h2 : 0 ≤ m2) :
    prE (cdM c m0 m1 m2) n team l = 0 ∧ prE c (nM n later) team l = 0 ∧ (∀ x ∈ prK c n team l, x ∈ prK (cdM c m0 m1 m2) n team l) ∧ (∀ x ∈ prF c n team l, x ∈ prF (cdM c m0 m1 m2) n team l) ∧
      (∀ x ∈ prK c (nM n later) team l, x ∈ prK c n team l) ∧ (∀ x ∈ prF c (nM n later) team l, x ∈ prF c n team l) := by
  have hE' := prE_zero.1 hE
  obtain ⟨k1, k2, k3, k4⟩ := hE'
  obtain ⟨f1, f2, f3⟩ := ccB_facts k1
  have e1 : prE (cdM c m0 m1 m2) n team l = 0 := prE_zero.2 ⟨ccB_more k1 h0 h1 h2, k2, k3, k4⟩
  have e2 : prE c (nM n later) team l = 0 := prE_zero.2 ⟨k1, k2, k3, by unfold nM; omega⟩
  refine ⟨e1, e2, ?_, ?_, ?_, ?_⟩
  · unfold prK; rw [if_pos hE, if_pos e1]
    exact wK_sub fun s => kpB_le (by show c.s ≤ min 16 (c.s + m2); omega) (by show c.f ≤ min 16 (c.f + m0); omega) (Int.le_refl _) s
  · unfold prF; rw [if_pos hE, if_pos e1]
    exact wK_sub fun s => fxB_le (by show c.t ≤ min 16 (c.t + m1); omega) (Int.le_refl _) s
  · unfold prK; rw [if_pos hE, if_pos e2]
    exact wK_sub fun s => kpB_le (Int.le_refl _) (Int.le_refl _) (by unfold nM; omega) s
  · unfold prF; rw [if_pos hE, if_pos e2]
    exact wK_sub fun s => fxB_le (Int.le_refl _) (by unfold nM; omega) s

theorem Cz.set0 {w : World} {b : Nat} {c : Cd} (h : Cz w b c) (q : Int) : Cz (w.setCell ⟨b, 0, none⟩ (.int .i64 q)) b ⟨q, c.t, c.s, c.e, c.p⟩ := by
  obtain ⟨⟨h0, h1, h2, h3, h4⟩, f0, f1, f2, f3, f4⟩ := h
  refine ⟨⟨?_, ?_, ?_, ?_, ?_⟩, ?_, ?_, ?_, ?_, ?_⟩ <;> simp_all [go_sem]
theorem Cz.set1 {w : World} {b : Nat} {c : Cd} (h : Cz w b c) (q : Int) : Cz (w.setCell ⟨b, 1, none⟩ (.int .i64 q)) b ⟨c.f, q, c.s, c.e, c.p⟩ := by
  obtain ⟨⟨h0, h1, h2, h3, h4⟩, f0, f1, f2, f3, f4⟩ := h
  refine ⟨⟨?_, ?_, ?_, ?_, ?_⟩, ?_, ?_, ?_, ?_, ?_⟩ <;> simp_all [go_sem]
theorem Cz.set2 {w : World} {b : Nat} {c : Cd} (h : Cz w b c) (q : Int) : Cz (w.setCell ⟨b, 2, none⟩ (.int .i64 q)) b ⟨c.f, c.t, q, c.e, c.p⟩ := by
  obtain ⟨⟨h0, h1, h2, h3, h4⟩, f0, f1, f2, f3, f4⟩ := h
  refine ⟨⟨?_, ?_, ?_, ?_, ?_⟩, ?_, ?_, ?_, ?_, ?_⟩ <;> simp_all [go_sem]
theorem RowI.kept {w w' : World} {g : Nat} {d : List Nat} {row : Option Nat} (h : RowI w g d) (hg : w.grownBy w' row) (hne : some g ≠ row) : RowI w' g d := fun j hj =>
  ⟨hg.cell (h j hj).1 hne, (frozen_heap (hg.block g (lt_cell (h j hj).1) hne)).trans (h j hj).2⟩
theorem OwnN.kept {base k : Nat} {w0 w w' : World} {v : Value} {d : List Nat} (h0 : OwnN base w0 v d) (hk : w0.heap.size ≤ k) (h : OwnN base w v d) (hg : w.grownBy w' (some k)) : OwnN base w' v d := by
  obtain ⟨A, cap, rfl, h1, h2, h3, h4⟩ := h
  refine ⟨A, cap, rfl, h1, h2, h3, fun hd => ?_⟩
  obtain ⟨g, rfl, hb, hr⟩ := h4 hd
  obtain ⟨A0, cap0, e, -, -, -, h5⟩ := h0
  obtain ⟨g0, rfl, -, hr0⟩ := h5 hd
  injection e with e
  injection e with e
  injection e with e
  have hl : 0 < d.length := List.length_pos_iff.2 hd
  have := lt_cell (hr0 0 hl).1
  exact ⟨g, rfl, hb, hr.kept hg (by simp; omega)⟩

set_option maxRecDepth 100000 in
set_option maxHeartbeats 8000000 in
theorem More_any (c : Cd) (m0 m1 m2 : Int) (n later team : Int) (l : List St) (v : Value) (w : World) (hrow : RowS w v l) (hl : l.length ≤ 20) (u0 : 0 ≤ m0 ∧ m0 ≤ 255) (u1 : 0 ≤ m1 ∧ m1 ≤ 255) (u2 : 0 ≤ m2 ∧ m2 ≤ 255) :
    Calls Try.prog 7 #[Cdv c, .agg #[.int .u8 m0, .int .u8 m1, .int .u8 m2], .int .i64 n, .int .i64 later, .int .i64 team, v] w (Back (.bool true) w) := by
  have HR := Lib.hid hrow
  obtain ⟨A, cap, rfl⟩ := hrow.form
  have H11 := Lib.hid (fun c n W (h : RowS W (.slice A l.length cap) l) => Protected_any c n team l _ W h)
  have K0 : Hid (∀ W, W = ((w.alloc (.cells #[.int .i64 c.f, .int .i64 c.t, .int .i64 c.s, .int .i64 c.e, .bool c.p] 23)).alloc (.cells #[.int .u8 m0, .int .u8 m1, .int .u8 m2] 58)) → Below w.heap.size w W ∧ Cd5 W w.heap.size c ∧ U3 W (w.heap.size + 1) m0 m1 m2 ∧ W.heap.size = w.heap.size + 2) := by
    rintro W rfl
    have b0 : Below w.heap.size w (w.alloc (.cells #[.int .i64 c.f, .int .i64 c.t, .int .i64 c.s, .int .i64 c.e, .bool c.p] 23)) := (Below.refl _ _).alloc (Nat.le_refl _) _
    refine ⟨b0.alloc (by simp) _, (Cd5.new w c).up ((Below.refl _ _).alloc (Nat.le_refl _) _), ⟨?_, ?_, ?_⟩, by simp⟩ <;> simp [go_sem]
  clear hrow
  obtain ⟨E, hE⟩ : ∃ k, prE c n team l = k := ⟨_, rfl⟩
  have MP : Hid (E = 0 → prE (cdM c m0 m1 m2) n team l = 0 ∧ prE c (nM n later) team l = 0 ∧ (∀ x ∈ prK c n team l, x ∈ prK (cdM c m0 m1 m2) n team l) ∧ (∀ x ∈ prF c n team l, x ∈ prF (cdM c m0 m1 m2) n team l) ∧
      (∀ x ∈ prK c (nM n later) team l, x ∈ prK c n team l) ∧ (∀ x ∈ prF c (nM n later) team l, x ∈ prF c n team l)) := fun h => more_plain (hE.trans h) u0.1 u1.1 u2.1
  have MF : Hid (E = 0 → (0 ≤ c.f ∧ c.f ≤ 16) ∧ (0 ≤ c.t ∧ c.t ≤ 16) ∧ (0 ≤ c.s ∧ c.s ≤ 16)) := fun h => ccB_facts (prE_zero.1 (hE.trans h)).1
  have HE := Lib.hid hE
  clear hE
  have hl20 : ¬ (20 : Int) < (l.length : Int) := by omega
  obtain ⟨f, t, s, e, p⟩ := c
  go_enter Try.func7, Try.ntmps7
  go_upto_region 3 with fail
  generalize hwx : World.alloc (World.alloc w _) _ = wx
  obtain ⟨k1, k2, k3, k4⟩ := K0.out wx hwx.symm
  have B := Lib.hid k1
  have C5 := Lib.hid k2
  have U := Lib.hid k3
  clear hwx K0 k1 k2 k3 k4
  obtain ⟨a0, a1, a2, a3, a4⟩ := C5.out
  simp only at a0 a1 a2 a3 a4
  have H11a : Hid (∀ W, RowS W (.slice A l.length cap) l → Calls Try.prog 11 #[Cdv ⟨f, t, s, e, p⟩, .int .i64 n, .int .i64 team, .slice A l.length cap] W fun e' w' => (∃ A1 n1 c1 A2 n2 c2, e' = .returned (.tuple #[.slice A1 n1 c1, .slice A2 n2 c2, .int .i64 E]) ∧ OwnN W.heap.size w' (.slice A1 n1 c1) (prK ⟨f, t, s, e, p⟩ n team l) ∧ OwnN W.heap.size w' (.slice A2 n2 c2) (prF ⟨f, t, s, e, p⟩ n team l)) ∧ Below W.heap.size W w') := fun W h => by
    have := H11.out ⟨f, t, s, e, p⟩ n W h
    unfold PrC at this
    rwa [HE.out] at this
  by_cases hE0 : E = 0
  · subst hE0
    obtain ⟨f1, f2, f3⟩ := MF.out rfl
    simp only at f1 f2 f3
    go_upto_region 6 with (go_at_call 11; (with_reducible refine (H11a.out _ (HR.out.up B.out)).mono ?_); rintro e2 w3 ⟨⟨A1, n1, c1, A2, n2, c2, rfl, ho1, ho2⟩, hb1⟩; have O1 := Lib.hid ho1; have O2 := Lib.hid ho2; have HL1 := Lib.hid ho1; have HL2 := Lib.hid ho2; replace C5 := Lib.hid (C5.out.up hb1); replace U := Lib.hid (U.out.up hb1); replace B := Lib.hid (B.out.trans (hb1.mono B.out.size)); clear hb1 ho1 ho2 a0 a1 a2 a3 a4 H11a)
    obtain ⟨a0, a1, a2, a3, a4⟩ := C5.out
    simp only at a0 a1 a2 a3 a4
    go_upto_region 7 with fail
    generalize hwy : World.alloc w3 _ = wy
    have DZ : Hid (Cz wy w3.heap.size ⟨f, t, s, e, p⟩) := by show Cz _ _ _; rw [← hwy]; exact Cz.new w3 ⟨f, t, s, e, p⟩
    have hby : Below w3.heap.size w3 wy := by rw [← hwy]; exact (Below.refl _ _).alloc (Nat.le_refl _) _
    have hpd : w.heap.size + 1 < w3.heap.size := lt_cell U.out.1
    replace B := Lib.hid (B.out.trans (hby.mono B.out.size))
    replace C5 := Lib.hid (C5.out.up hby)
    replace U := Lib.hid (U.out.up hby)
    replace O1 := Lib.hid (O1.out.up hby)
    replace O2 := Lib.hid (O2.out.up hby)
    obtain ⟨pd, hpd'⟩ : ∃ p, w3.heap.size = p := ⟨_, rfl⟩
    have HPD : Hid (w3.heap.size ≤ w3.heap.size) := Nat.le_refl _
    rw [hpd'] at DZ hpd
    replace HPD : Hid (w3.heap.size ≤ pd) := by show _ ≤ _; omega
    rw [hpd']
    clear hwy hby hpd' a0 a1 a2 a3 a4
    have hdr : Below wy.heap.size wy wy.drew := (Below.refl _ _).drew
    replace B := Lib.hid (B.out.trans (hdr.mono B.out.size))
    replace C5 := Lib.hid (C5.out.up hdr)
    replace U := Lib.hid (U.out.up hdr)
    replace O1 := Lib.hid (O1.out.up hdr)
    replace O2 := Lib.hid (O2.out.up hdr)
    replace DZ : Hid (Cz wy.drew pd ⟨f, t, s, e, p⟩) := DZ.out.kept (grown_of hdr none) (by simp)
    have SX : Hid (Cd5 wy.drew w.heap.size ⟨f, t, s, e, p⟩ ∧ U3 wy.drew (w.heap.size + 1) m0 m1 m2) := ⟨C5.out, U.out⟩
    have hm0 : 0 ≤ f + m0 ∧ f + m0 ≤ 300 := by omega
    have hm1 : 0 ≤ t + m1 ∧ t + m1 ≤ 300 := by omega
    have hm2 : 0 ≤ s + m2 ∧ s + m2 ≤ 300 := by omega
    clear hdr
    refine wp_region_P (fun _ w' => Cd5 w' w.heap.size ⟨f, t, s, e, p⟩ ∧ U3 w' (w.heap.size + 1) m0 m1 m2) (by kernel_rfl) ?_
    generalize hwd : wy.drew = wd
    rw [hwd] at B C5 U O1 O2 DZ SX
    clear hwd
    refine wpAnyP_take (i := 0) (v := .pointer (some ⟨w.heap.size, 0, none⟩)) rfl (by kernel_rfl) (by kernel_rfl) (by kernel_rfl) (fun _ _ _ h => h) (yieldsIf_run rfl (fun wq hS => ?_)) SX.out ?_
    · go_simp
    refine wpAnyP_take (i := 1) (v := .int .i64 f) rfl (by kernel_rfl) (by kernel_rfl) (by kernel_rfl) (fun _ _ _ h => h) (yieldsIf_run rfl (fun wq hS => ?_)) SX.out ?_
    · obtain ⟨⟨q0, q1, q2, q3, q4⟩, r0, r1, r2⟩ := hS
      simp only at q0 q1 q2 q3 q4
      go_simp
    refine wpAnyP_take (i := 2) (v := .pointer (some ⟨w.heap.size + 1, 0, none⟩)) rfl (by kernel_rfl) (by kernel_rfl) (by kernel_rfl) (fun _ _ _ h => h) (yieldsIf_run rfl (fun wq hS => ?_)) SX.out ?_
    · go_simp
    refine wpAnyP_take (i := 3) (v := .int .u8 m0) rfl (by kernel_rfl) (by kernel_rfl) (by kernel_rfl) (fun _ _ _ h => h) (yieldsIf_run rfl (fun wq hS => ?_)) SX.out ?_
    · obtain ⟨⟨q0, q1, q2, q3, q4⟩, r0, r1, r2⟩ := hS
      simp only at q0 q1 q2 q3 q4
      go_simp
    refine wpAnyP_take (i := 4) (v := .int .i64 m0) rfl (by kernel_rfl) (by kernel_rfl) (by kernel_rfl) (fun _ _ _ h => h) (yieldsIf_run rfl (fun wq hS => ?_)) SX.out ?_
    · go_simp
      exact IntWalk.i64_in _ (by omega)
    refine wpAnyP_take (i := 5) (v := .int .i64 (f + m0)) rfl (by kernel_rfl) (by kernel_rfl) (by kernel_rfl) (fun _ _ _ h => h) (yieldsIf_run rfl (fun wq hS => ?_)) SX.out ?_
    · go_simp
      exact IntWalk.i64_in _ (by omega)
    refine wpAnyP_take (i := 6) (v := .int .i64 (min 16 (f + m0))) rfl (by kernel_rfl) (by kernel_rfl) (by kernel_rfl) (fun _ _ _ h => h) (yieldsIf_run rfl (fun wq hS => ?_)) SX.out ?_
    · go_simp
    refine wpAnyP_take (i := 7) (v := .pointer (some ⟨w.heap.size, 1, none⟩)) rfl (by kernel_rfl) (by kernel_rfl) (by kernel_rfl) (fun _ _ _ h => h) (yieldsIf_run rfl (fun wq hS => ?_)) SX.out ?_
    · go_simp
    refine wpAnyP_take (i := 8) (v := .int .i64 t) rfl (by kernel_rfl) (by kernel_rfl) (by kernel_rfl) (fun _ _ _ h => h) (yieldsIf_run rfl (fun wq hS => ?_)) SX.out ?_
    · obtain ⟨⟨q0, q1, q2, q3, q4⟩, r0, r1, r2⟩ := hS
      simp only at q0 q1 q2 q3 q4
      go_simp
    refine wpAnyP_take (i := 9) (v := .pointer (some ⟨w.heap.size + 1, 1, none⟩)) rfl (by kernel_rfl) (by kernel_rfl) (by kernel_rfl) (fun _ _ _ h => h) (yieldsIf_run rfl (fun wq hS => ?_)) SX.out ?_
    · go_simp
    refine wpAnyP_take (i := 10) (v := .int .u8 m1) rfl (by kernel_rfl) (by kernel_rfl) (by kernel_rfl) (fun _ _ _ h => h) (yieldsIf_run rfl (fun wq hS => ?_)) SX.out ?_
    · obtain ⟨⟨q0, q1, q2, q3, q4⟩, r0, r1, r2⟩ := hS
      simp only at q0 q1 q2 q3 q4
      go_simp
    refine wpAnyP_take (i := 11) (v := .int .i64 m1) rfl (by kernel_rfl) (by kernel_rfl) (by kernel_rfl) (fun _ _ _ h => h) (yieldsIf_run rfl (fun wq hS => ?_)) SX.out ?_
    · go_simp
      exact IntWalk.i64_in _ (by omega)
    refine wpAnyP_take (i := 12) (v := .int .i64 (t + m1)) rfl (by kernel_rfl) (by kernel_rfl) (by kernel_rfl) (fun _ _ _ h => h) (yieldsIf_run rfl (fun wq hS => ?_)) SX.out ?_
    · go_simp
      exact IntWalk.i64_in _ (by omega)
    refine wpAnyP_take (i := 13) (v := .int .i64 (min 16 (t + m1))) rfl (by kernel_rfl) (by kernel_rfl) (by kernel_rfl) (fun _ _ _ h => h) (yieldsIf_run rfl (fun wq hS => ?_)) SX.out ?_
    · go_simp
    refine wpAnyP_take (i := 14) (v := .pointer (some ⟨w.heap.size, 2, none⟩)) rfl (by kernel_rfl) (by kernel_rfl) (by kernel_rfl) (fun _ _ _ h => h) (yieldsIf_run rfl (fun wq hS => ?_)) SX.out ?_
    · go_simp
    refine wpAnyP_take (i := 15) (v := .int .i64 s) rfl (by kernel_rfl) (by kernel_rfl) (by kernel_rfl) (fun _ _ _ h => h) (yieldsIf_run rfl (fun wq hS => ?_)) SX.out ?_
    · obtain ⟨⟨q0, q1, q2, q3, q4⟩, r0, r1, r2⟩ := hS
      simp only at q0 q1 q2 q3 q4
      go_simp
    refine wpAnyP_take (i := 16) (v := .pointer (some ⟨w.heap.size + 1, 2, none⟩)) rfl (by kernel_rfl) (by kernel_rfl) (by kernel_rfl) (fun _ _ _ h => h) (yieldsIf_run rfl (fun wq hS => ?_)) SX.out ?_
    · go_simp
    refine wpAnyP_take (i := 17) (v := .int .u8 m2) rfl (by kernel_rfl) (by kernel_rfl) (by kernel_rfl) (fun _ _ _ h => h) (yieldsIf_run rfl (fun wq hS => ?_)) SX.out ?_
    · obtain ⟨⟨q0, q1, q2, q3, q4⟩, r0, r1, r2⟩ := hS
      simp only at q0 q1 q2 q3 q4
      go_simp
    refine wpAnyP_take (i := 18) (v := .int .i64 m2) rfl (by kernel_rfl) (by kernel_rfl) (by kernel_rfl) (fun _ _ _ h => h) (yieldsIf_run rfl (fun wq hS => ?_)) SX.out ?_
    · go_simp
      exact IntWalk.i64_in _ (by omega)
    refine wpAnyP_take (i := 19) (v := .int .i64 (s + m2)) rfl (by kernel_rfl) (by kernel_rfl) (by kernel_rfl) (fun _ _ _ h => h) (yieldsIf_run rfl (fun wq hS => ?_)) SX.out ?_
    · go_simp
      exact IntWalk.i64_in _ (by omega)
    refine wpAnyP_take (i := 20) (v := .int .i64 (min 16 (s + m2))) rfl (by kernel_rfl) (by kernel_rfl) (by kernel_rfl) (fun _ _ _ h => h) (yieldsIf_run rfl (fun wq hS => ?_)) SX.out ?_
    · go_simp
    refine wpAnyP_take (i := 21) (v := .pointer (some ⟨pd, 0, none⟩)) rfl (by kernel_rfl) (by kernel_rfl) (by kernel_rfl) (fun _ _ _ h => h) (yieldsIf_run rfl (fun wq hS => ?_)) SX.out ?_
    · go_simp
    obtain ⟨⟨z0, z1, z2, z3, z4⟩, i0, i1, i2, i3, i4⟩ := DZ.out
    refine wpAnyP_one (i := 22) (by kernel_rfl) (wpOp_skip (w' := wd.setCell ⟨pd, 0, none⟩ (.int .i64 (min 16 (f + m0)))) rfl rfl ?_ ⟨fun _ _ hS => ⟨hS.1.kept (grown_set _ ⟨pd, 0, none⟩ _) (by simp; omega), hS.2.kept (grown_set _ ⟨pd, 0, none⟩ _) (by simp; omega)⟩, ?_⟩)
    · unfold execOp
      go_simp
    have DZ1 := DZ.out.set0 (min 16 (f + m0))
    clear z0 z1 z2 z3 z4 i0 i1 i2 i3 i4
    obtain ⟨⟨z0, z1, z2, z3, z4⟩, i0, i1, i2, i3, i4⟩ := DZ1
    refine wpAnyP_one (i := 23) (by kernel_rfl) (wpOp_run (v := .pointer (some ⟨pd, 1, none⟩)) (w' := wd.setCell ⟨pd, 0, none⟩ (.int .i64 (min 16 (f + m0)))) rfl rfl (by go_simp) ⟨fun _ _ hS => hS, ?_⟩)
    refine wpAnyP_one (i := 24) (by kernel_rfl) (wpOp_skip (w' := (wd.setCell ⟨pd, 0, none⟩ (.int .i64 (min 16 (f + m0)))).setCell ⟨pd, 1, none⟩ (.int .i64 (min 16 (t + m1)))) rfl rfl ?_ ⟨fun _ _ hS => ⟨hS.1.kept (grown_set _ ⟨pd, 1, none⟩ _) (by simp; omega), hS.2.kept (grown_set _ ⟨pd, 1, none⟩ _) (by simp; omega)⟩, ?_⟩)
    · unfold execOp
      go_simp
    have DZ2 := (DZ.out.set0 (min 16 (f + m0))).set1 (min 16 (t + m1))
    clear z0 z1 z2 z3 z4 i0 i1 i2 i3 i4
    obtain ⟨⟨z0, z1, z2, z3, z4⟩, i0, i1, i2, i3, i4⟩ := DZ2
    refine wpAnyP_one (i := 25) (by kernel_rfl) (wpOp_run (v := .pointer (some ⟨pd, 2, none⟩)) (w' := (wd.setCell ⟨pd, 0, none⟩ (.int .i64 (min 16 (f + m0)))).setCell ⟨pd, 1, none⟩ (.int .i64 (min 16 (t + m1)))) rfl rfl (by go_simp) ⟨fun _ _ hS => hS, ?_⟩)
    refine wpAnyP_one (i := 26) (by kernel_rfl) (wpOp_skip (w' := ((wd.setCell ⟨pd, 0, none⟩ (.int .i64 (min 16 (f + m0)))).setCell ⟨pd, 1, none⟩ (.int .i64 (min 16 (t + m1)))).setCell ⟨pd, 2, none⟩ (.int .i64 (min 16 (s + m2)))) rfl rfl ?_ ⟨fun _ _ hS => ⟨hS.1.kept (grown_set _ ⟨pd, 2, none⟩ _) (by simp; omega), hS.2.kept (grown_set _ ⟨pd, 2, none⟩ _) (by simp; omega)⟩, ?_⟩)
    · unfold execOp
      go_simp
    clear z0 z1 z2 z3 z4 i0 i1 i2 i3 i4
    refine wpAnyP_done (by kernel_rfl) ?_ _
    have hg : wd.grownBy (((wd.setCell ⟨pd, 0, none⟩ (.int .i64 (min 16 (f + m0)))).setCell ⟨pd, 1, none⟩ (.int .i64 (min 16 (t + m1)))).setCell ⟨pd, 2, none⟩ (.int .i64 (min 16 (s + m2)))) (some pd) := ((grown_set _ ⟨pd, 0, none⟩ _).trans (grown_set _ ⟨pd, 1, none⟩ _)).trans (grown_set _ ⟨pd, 2, none⟩ _)
    have DZ3 : Hid (Cz (((wd.setCell ⟨pd, 0, none⟩ (.int .i64 (min 16 (f + m0)))).setCell ⟨pd, 1, none⟩ (.int .i64 (min 16 (t + m1)))).setCell ⟨pd, 2, none⟩ (.int .i64 (min 16 (s + m2)))) pd (cdM ⟨f, t, s, e, p⟩ m0 m1 m2)) := ((DZ.out.set0 (min 16 (f + m0))).set1 (min 16 (t + m1))).set2 (min 16 (s + m2))
    generalize hw7 : World.setCell _ _ _ = w7
    rw [hw7] at hg DZ3
    have hpdz : pd < wd.heap.size := lt_cell DZ.out.1.1
    replace B := Lib.hid (B.out.grown hg B.out.size (fun j e => by injection e with e; omega))
    replace C5 : Hid (Cd5 w7 w.heap.size ⟨f, t, s, e, p⟩) := C5.out.kept hg (by simp; omega)
    replace O1 : Hid (OwnN _ w7 _ _) := HL1.out.kept HPD.out O1.out hg
    replace O2 : Hid (OwnN _ w7 _ _) := HL2.out.kept HPD.out O2.out hg
    clear hw7 hg hpdz SX U DZ
    have z0 : w7.cell? ⟨pd, 0, none⟩ = some (.int .i64 (min 16 (f + m0))) := DZ3.out.1.1
    have z1 : w7.cell? ⟨pd, 1, none⟩ = some (.int .i64 (min 16 (t + m1))) := DZ3.out.1.2.1
    have z2 : w7.cell? ⟨pd, 2, none⟩ = some (.int .i64 (min 16 (s + m2))) := DZ3.out.1.2.2.1
    have z3 : w7.cell? ⟨pd, 3, none⟩ = some (.int .i64 e) := DZ3.out.1.2.2.2.1
    have z4 : w7.cell? ⟨pd, 4, none⟩ = some (.bool p) := DZ3.out.1.2.2.2.2
    have HM := Lib.hid (MP.out (by trivial))
    have H11b : Hid (∀ W, RowS W (.slice A l.length cap) l → Calls Try.prog 11 #[.agg #[.int .i64 (min 16 (f + m0)), .int .i64 (min 16 (t + m1)), .int .i64 (min 16 (s + m2)), .int .i64 e, .bool p], .int .i64 n, .int .i64 team, .slice A l.length cap] W fun e' w' => (∃ A1 n1 c1 A2 n2 c2, e' = .returned (.tuple #[.slice A1 n1 c1, .slice A2 n2 c2, .int .i64 0]) ∧ OwnN W.heap.size w' (.slice A1 n1 c1) (prK (cdM ⟨f, t, s, e, p⟩ m0 m1 m2) n team l) ∧ OwnN W.heap.size w' (.slice A2 n2 c2) (prF (cdM ⟨f, t, s, e, p⟩ m0 m1 m2) n team l)) ∧ Below W.heap.size W w') := fun W h => by
      have := H11.out (cdM ⟨f, t, s, e, p⟩ m0 m1 m2) n W h
      unfold PrC at this
      rwa [HM.out.1] at this
    have H11c : Hid (∀ W, RowS W (.slice A l.length cap) l → Calls Try.prog 11 #[Cdv ⟨f, t, s, e, p⟩, .int .i64 (min 16 (max n later)), .int .i64 team, .slice A l.length cap] W fun e' w' => (∃ A1 n1 c1 A2 n2 c2, e' = .returned (.tuple #[.slice A1 n1 c1, .slice A2 n2 c2, .int .i64 0]) ∧ OwnN W.heap.size w' (.slice A1 n1 c1) (prK ⟨f, t, s, e, p⟩ (nM n later) team l) ∧ OwnN W.heap.size w' (.slice A2 n2 c2) (prF ⟨f, t, s, e, p⟩ (nM n later) team l)) ∧ Below W.heap.size W w') := fun W h => by
      have := H11.out ⟨f, t, s, e, p⟩ (nM n later) W h
      unfold PrC at this
      rwa [HM.out.2.1] at this
    clear H11 DZ3 hm0 hm1 hm2
    go_upto_region 9 with (go_at_call 11; (with_reducible refine (H11b.out _ (HR.out.up B.out)).mono ?_); rintro e2 w8 ⟨⟨A3, n3, c3, A4, n4, c4, rfl, ho1, ho2⟩, hb1⟩; have O3 := Lib.hid ho1; have O4 := Lib.hid ho2; replace O1 := Lib.hid (O1.out.up hb1); replace O2 := Lib.hid (O2.out.up hb1); replace C5 := Lib.hid (C5.out.up hb1); replace B := Lib.hid (B.out.trans (hb1.mono B.out.size)); clear hb1 ho1 ho2 z0 z1 z2 z3 z4 H11b)
    obtain ⟨a0, a1, a2, a3, a4⟩ := C5.out
    simp only at a0 a1 a2 a3 a4
    go_upto_region 12 with (go_at_call 11; (with_reducible refine (H11c.out _ (HR.out.up B.out)).mono ?_); rintro e2 w9 ⟨⟨A5, n5, c5, A6, n6, c6, rfl, ho1, ho2⟩, hb1⟩; have O5 := Lib.hid ho1; have O6 := Lib.hid ho2; replace O1 := Lib.hid (O1.out.up hb1); replace O2 := Lib.hid (O2.out.up hb1); replace O3 := Lib.hid (O3.out.up hb1); replace O4 := Lib.hid (O4.out.up hb1); replace B := Lib.hid (B.out.trans (hb1.mono B.out.size)); clear hb1 ho1 ho2 a0 a1 a2 a3 a4 H11c C5)
    have LN : Hid (∀ c n, (prK c n team l).length ≤ 1000 ∧ (prF c n team l).length ≤ 1000) := fun c n => ⟨by have := prK_len c n team l; omega, by have := prF_len c n team l; omega⟩
    have P1 : Hid (∀ W, Below w9.heap.size w9 W → Calls Try.prog 29 #[.slice A1 n1 c1, .slice A3 n3 c3] W (Back (.bool true) W)) := fun W h => part_any _ _ _ _ _ _ W (O1.out.up h) (O3.out.up h) (LN.out _ _).1 (LN.out _ _).1 HM.out.2.2.1
    have P2 : Hid (∀ W, Below w9.heap.size w9 W → Calls Try.prog 29 #[.slice A2 n2 c2, .slice A4 n4 c4] W (Back (.bool true) W)) := fun W h => part_any _ _ _ _ _ _ W (O2.out.up h) (O4.out.up h) (LN.out _ _).2 (LN.out _ _).2 HM.out.2.2.2.1
    have P3 : Hid (∀ W, Below w9.heap.size w9 W → Calls Try.prog 29 #[.slice A5 n5 c5, .slice A1 n1 c1] W (Back (.bool true) W)) := fun W h => part_any _ _ _ _ _ _ W (O5.out.up h) (O1.out.up h) (LN.out _ _).1 (LN.out _ _).1 HM.out.2.2.2.2.1
    have P4 : Hid (∀ W, Below w9.heap.size w9 W → Calls Try.prog 29 #[.slice A6 n6 c6, .slice A2 n2 c2] W (Back (.bool true) W)) := fun W h => part_any _ _ _ _ _ _ W (O6.out.up h) (O2.out.up h) (LN.out _ _).2 (LN.out _ _).2 HM.out.2.2.2.2.2
    have B9 : Hid (Below w9.heap.size w9 w9) := Below.refl _ _
    clear O1 O2 O3 O4 O5 O6 HL1 HL2 HPD HM MP MF
    go_wp2_with (first
      | (go_at_call 29; (with_reducible refine (P1.out _ B9.out).mono ?_); rintro e1 w1 ⟨rfl, hb1⟩; replace B9 := Lib.hid (B9.out.trans (hb1.mono B9.out.size)); clear hb1 P1)
      | (go_at_call 29; (with_reducible refine (P2.out _ B9.out).mono ?_); rintro e1 w1 ⟨rfl, hb1⟩; replace B9 := Lib.hid (B9.out.trans (hb1.mono B9.out.size)); clear hb1 P2)
      | (go_at_call 29; (with_reducible refine (P3.out _ B9.out).mono ?_); rintro e1 w1 ⟨rfl, hb1⟩; replace B9 := Lib.hid (B9.out.trans (hb1.mono B9.out.size)); clear hb1 P3)
      | (go_at_call 29; (with_reducible refine (P4.out _ B9.out).mono ?_); rintro e1 w1 ⟨rfl, hb1⟩; replace B9 := Lib.hid (B9.out.trans (hb1.mono B9.out.size)); clear hb1 P4)
      | (go_at_call 8; refine (awake_any _).mono ?_; rintro e1 w1 ⟨rfl, hb1⟩; replace B9 := Lib.hid (B9.out.trans (hb1.mono B9.out.size)); clear hb1))
    go_ret
    exact ⟨rfl, B.out.trans (B9.out.mono B.out.size)⟩
  · have hE1 : (E != 0) = true := by simpa using hE0
    go_wp2_with (first
      | (go_at_call 11; (with_reducible refine (H11a.out _ (HR.out.up B.out)).mono ?_); rintro e2 w3 ⟨⟨A1, n1, c1, A2, n2, c2, rfl, ho1, ho2⟩, hb1⟩; replace B := Lib.hid (B.out.trans (hb1.mono B.out.size)); clear hb1 ho1 ho2 a0 a1 a2 a3 a4 H11a)
      | (go_at_call 8; refine (awake_any _).mono ?_; rintro e1 w1 ⟨rfl, hb1⟩; replace B := Lib.hid (B.out.trans (hb1.mono B.out.size)); clear hb1))
    go_ret
    exact ⟨rfl, B.out⟩
set_option maxHeartbeats 1000000 in
theorem More_big (c : Cd) (m0 m1 m2 : Int) (n later team : Int) (A : Option Addr) (len cap : Nat) (w : World) (h20 : 20 < len) :
    Calls Try.prog 7 #[Cdv c, .agg #[.int .u8 m0, .int .u8 m1, .int .u8 m2], .int .i64 n, .int .i64 later, .int .i64 team, .slice A len cap] w (Back (.bool true) w) := by
  have B : Hid (Below w.heap.size w ((w.alloc (.cells #[.int .i64 c.f, .int .i64 c.t, .int .i64 c.s, .int .i64 c.e, .bool c.p] 23)).alloc (.cells #[.int .u8 m0, .int .u8 m1, .int .u8 m2] 58))) := ((Below.refl _ _).alloc (Nat.le_refl _) _).alloc (by simp) _
  obtain ⟨f, t, s', e, p⟩ := c
  have h20' : (20 : Int) < (len : Int) := by omega
  go_enter Try.func7, Try.ntmps7
  go_wp2_with (go_at_call 8; refine (awake_any _).mono ?_; rintro e1 w1 ⟨rfl, hb1⟩; replace B := Lib.hid (B.out.trans (hb1.mono B.out.size)); clear hb1)
  go_ret
  exact ⟨rfl, B.out⟩
theorem More_law (c : Cd) (m0 m1 m2 : Int) (n later team : Int) (A : Option Addr) (len cap : Nat) (w : World) (hu : (0 ≤ m0 ∧ m0 ≤ 255) ∧ (0 ≤ m1 ∧ m1 ≤ 255) ∧ (0 ≤ m2 ∧ m2 ≤ 255)) (hl : len ≤ 281474976710656 → ∃ l : List St, l.length = len ∧ RowS w (.slice A len cap) l) :
    Calls Try.prog 7 #[Cdv c, .agg #[.int .u8 m0, .int .u8 m1, .int .u8 m2], .int .i64 n, .int .i64 later, .int .i64 team, .slice A len cap] w (Back (.bool true) w) := by
  by_cases h : len ≤ 20
  · obtain ⟨l, hll, hr⟩ := hl (by omega)
    exact More_any c m0 m1 m2 n later team l _ w hr (by omega) hu.1 hu.2.1 hu.2.2
  · exact More_big c m0 m1 m2 n later team A len cap w (by omega)
end Go.Proofs.Ytomcpgdpjpjioaa
