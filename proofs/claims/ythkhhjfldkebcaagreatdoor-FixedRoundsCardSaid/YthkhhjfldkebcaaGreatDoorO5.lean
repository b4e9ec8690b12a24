/- The walk of FixedRounds. -/
import Derived.Test.YthkhhjfldkebcaaGreatDoorO4
import Derived.Laws.EntriesVeiled
namespace Go.Proofs.YthkhhjfldkebcaaGreatDoor
open Go.RowKit Go.Proofs Go.Shelf

/-- What FixedRounds keeps in memory: its parameters, and the list of its closures. -/
structure RC (B SB : Nat) (a b num den : Int) (wr : World) : Prop where
  ca : wr.cell? ⟨B, 0, none⟩ = some (.int .i64 a)
  cb : wr.cell? ⟨B + 1, 0, none⟩ = some (.int .i64 b)
  cn : wr.cell? ⟨B + 1 + 1, 0, none⟩ = some (.int .i64 num)
  cd : wr.cell? ⟨B + 1 + 1 + 1, 0, none⟩ = some (.int .i64 den)
  s0 : wr.cell? ⟨SB, 0, none⟩ = some (.func (.func 31) #[] #[.pointer (some ⟨B + 1, 0, none⟩)])
  s1 : wr.cell? ⟨SB, 1, none⟩ = some (.func (.func 32) #[] #[.pointer (some ⟨B + 1, 0, none⟩)])
  s2 : wr.cell? ⟨SB, 2, none⟩ = some (.func (.func 33) #[] #[.pointer (some ⟨B + 1 + 1, 0, none⟩), .pointer (some ⟨B + 1 + 1 + 1, 0, none⟩)])
theorem RC.up {B SB : Nat} {a b num den : Int} {w w' : World} (h : RC B SB a b num den w) (hb : Below w.heap.size w w') : RC B SB a b num den w' :=
  ⟨upc h.ca hb, upc h.cb hb, upc h.cn hb, upc h.cd hb, upc h.s0 hb, upc h.s1 hb, upc h.s2 hb⟩
theorem RC.alt {B SB : Nat} {a b num den : Int} {w : World} (h : RC B SB a b num den w) {k : Nat} (hk : k < 3) :
    ∃ (f : FuncId) (caps : Array Value) (C : World → Prop), w.cell? ⟨SB, k, none⟩ = some (.func (.func f) #[] caps) ∧ Hid (Alt f caps a C) ∧ Hid (∀ W, RC B SB a b num den W → C W) := by
  have : k = 0 ∨ k = 1 ∨ k = 2 := by omega
  rcases this with rfl | rfl | rfl
  · exact ⟨31, _, _, h.s0, alt_mul a b _, fun W hW => hW.cb⟩
  · exact ⟨32, _, _, h.s1, alt_div a b _, fun W hW => hW.cb⟩
  · exact ⟨33, _, _, h.s2, alt_scale a num den _ _, fun W hW => ⟨hW.cn, hW.cd⟩⟩

theorem Together.bounds {c d u n : Int} (h : Together c d u n) : (-70368744177664 ≤ c ∧ c ≤ 70368744177664) ∧ (-70368744177664 ≤ d ∧ d ≤ 70368744177664) ∧ (-70368744177664 ≤ u ∧ u ≤ 70368744177664) ∧ (-70368744177664 ≤ n ∧ n ≤ 70368744177664) := by
  unfold Together at h; omega
theorem Together.walk {c d u n : Int} (h : Together c d u n) (w : World) :
    Calls Tryz.prog 38 #[.agg #[.int .i64 c, .int .i64 d, .int .i64 u, .int .i64 n]] w fun e w' => e = .returned (.bool true) ∧ Below w.heap.size w w' := by
  obtain ⟨h1, h2, h3, h4, h5, h6⟩ := h
  exact ordered_yes c d u n w h1 h2 h3 h4 h5 h6

set_option maxRecDepth 100000 in
set_option maxHeartbeats 4000000 in
theorem Rounds_any (a b num den : Int) (w : World) (hM : Mem w) :
    Calls Tryz.prog 7 #[.int .i64 a, .int .i64 b, .int .i64 num, .int .i64 den] w fun e w' => e = .returned (.bool true) ∧ Below w.heap.size w w' := by
  have hmf : ∀ (fn : Fn) (first cap : Array Value) (w : World), (Instr.makeFunc fn first cap).run Tryz.prog w = .ok (.func fn first cap) w := fun _ _ _ _ => rfl
  have HM := Lib.hid hM
  have BX : Hid (Below w.heap.size w ((((w.alloc (.cells #[.int .i64 a] 23)).alloc (.cells #[.int .i64 b] 23)).alloc (.cells #[.int .i64 num] 3)).alloc (.cells #[.int .i64 den] 3))) :=
    ((((Below.refl _ _).alloc (Nat.le_refl _) _).alloc (by simp) _).alloc (by simp; omega) _).alloc (by simp; omega) _
  have HR := Lib.hid (alt_root a)
  clear hM
  go_enter Tryz.func7, Tryz.ntmps7
  go_wp2_with (go_at_call 13; refine (alive_any _ (HM.out.up BX.out)).mono ?_; rintro e w1 ⟨rfl, hb1⟩)
  have B1 : Hid (Below w.heap.size w (w1.alloc (.cells #[.func (.func 31) #[] #[.pointer (some ⟨w.heap.size + 1, 0, none⟩)], .func (.func 32) #[] #[.pointer (some ⟨w.heap.size + 1, 0, none⟩)], .func (.func 33) #[] #[.pointer (some ⟨w.heap.size + 1 + 1, 0, none⟩), .pointer (some ⟨w.heap.size + 1 + 1 + 1, 0, none⟩)]] 28))) := by
    have := BX.out.trans (hb1.mono BX.out.size)
    exact this.alloc this.size _
  have R1 : Hid (RC w.heap.size w1.heap.size a b num den (w1.alloc (.cells #[.func (.func 31) #[] #[.pointer (some ⟨w.heap.size + 1, 0, none⟩)], .func (.func 32) #[] #[.pointer (some ⟨w.heap.size + 1, 0, none⟩)], .func (.func 33) #[] #[.pointer (some ⟨w.heap.size + 1 + 1, 0, none⟩), .pointer (some ⟨w.heap.size + 1 + 1 + 1, 0, none⟩)]] 28))) :=
    ⟨upa (upc (by simp [go_sem]) hb1) _, upa (upc (by simp [go_sem]) hb1) _, upa (upc (by simp [go_sem]) hb1) _, upa (upc (by simp [go_sem]) hb1) _, by simp [go_sem], by simp [go_sem], by simp [go_sem]⟩
  clear hb1
  go_loopw [28] (fun i wr => ∃ k : Nat, k ≤ 3 ∧ i = .int .i64 k ∧ RC w.heap.size w1.heap.size a b num den wr ∧ Below w.heap.size w wr) (fun i _ => 3 - (intOf i).toNat)
  case atStart => exact ⟨0, by omega, rfl, R1.out, B1.out⟩
  case round =>
    obtain ⟨k, hk, rfl, hrc, hb⟩ := hrel
    have RR := Lib.hid hrc
    have BB := Lib.hid hb
    by_cases hlt : k < 3
    · have hk3 : (k : Int) < 3 := by omega
      obtain ⟨f, caps, C, hcell, HA, HC⟩ := hrc.alt hlt
      have ca := hrc.ca
      clear hrc hb
      have RA : Hid (∀ o, RC w.heap.size w1.heap.size a b num den (wr.alloc o)) := fun o => RR.out.up ((Below.refl _ _).alloc (Nat.le_refl _) _)
      rcases HA.out with ⟨l0, l1, l2, l3, h36⟩ | ⟨l0, l1, l2, l3, ht, h36, h37⟩
      · have H36 := Lib.hid h36
        clear h36 HA
        go_upto_region 9 with (go_at_call 35; refine (H36.out _ _ _ (HC.out _ (RA.out _)) (by simp [go_sem]) (upa ca _)).mono ?_; rintro e w2 ⟨rfl, hb2⟩)
        have BW : Hid (∀ o, Below wr.heap.size wr (w2.alloc o)) := fun o => (((Below.refl _ _).alloc (Nat.le_refl _) _).trans (hb2.mono (by simp))).alloc (by have := hb2.size; simp at this; omega) _
        clear hb2
        go_wp2_with fail
        go_roundw
        case rel => exact ⟨k + 1, by omega, by go_num, RR.out.up (BW.out _), BB.out.trans ((BW.out _).mono BB.out.size)⟩
        case measure => simp [intOf]; omega
      · have H36 := Lib.hid h36
        have H37 := Lib.hid h37
        have HT := Lib.hid ht
        obtain ⟨⟨b0, b0'⟩, ⟨b1, b1'⟩, ⟨b2, b2'⟩, b3, b3'⟩ := ht.bounds
        clear h36 h37 HA ht
        go_upto_region 9 with (go_at_call 35; refine (H36.out _ _ _ (HC.out _ (RA.out _)) (by simp [go_sem]) (upa ca _)).mono ?_; rintro e w2 ⟨rfl, hb2⟩)
        have BW : Hid (∀ o, Below wr.heap.size wr (w2.alloc o)) := fun o => (((Below.refl _ _).alloc (Nat.le_refl _) _).trans (hb2.mono (by simp))).alloc (by have := hb2.size; simp at this; omega) _
        have ca2 : ∀ o, (w2.alloc o).cell? ⟨w.heap.size, 0, none⟩ = some (.int .i64 a) := fun o => upc ca (BW.out o)
        have cc2 : ∀ o, (w2.alloc o).cell? ⟨wr.heap.size, 0, none⟩ = some (.func (.func f) #[] caps) := fun o => upa (upc (by simp [go_sem]) hb2) o
        clear hb2
        go_upto_region 11 with (go_at_call 35; refine (H37.out _ _ _ (HC.out _ (RR.out.up (BW.out _))) (cc2 _) (ca2 _)).mono ?_; rintro e w3 ⟨rfl, hb3⟩; have p0 := fun o => upa (w := w3) (upc (show (w2.alloc (.cells #[.int .i64 l0, .int .i64 l1, .int .i64 l2, .int .i64 l3] 53)).cell? ⟨w2.heap.size, 0, none⟩ = some (.int .i64 l0) by simp [go_sem]) hb3) o; have p1 := fun o => upa (w := w3) (upc (show (w2.alloc (.cells #[.int .i64 l0, .int .i64 l1, .int .i64 l2, .int .i64 l3] 53)).cell? ⟨w2.heap.size, 1, none⟩ = some (.int .i64 l1) by simp [go_sem]) hb3) o; have p2 := fun o => upa (w := w3) (upc (show (w2.alloc (.cells #[.int .i64 l0, .int .i64 l1, .int .i64 l2, .int .i64 l3] 53)).cell? ⟨w2.heap.size, 2, none⟩ = some (.int .i64 l2) by simp [go_sem]) hb3) o; have p3 := fun o => upa (w := w3) (upc (show (w2.alloc (.cells #[.int .i64 l0, .int .i64 l1, .int .i64 l2, .int .i64 l3] 53)).cell? ⟨w2.heap.size, 3, none⟩ = some (.int .i64 l3) by simp [go_sem]) hb3) o)
        have BV : Hid (∀ o, Below wr.heap.size wr (w3.alloc o)) := fun o => ((BW.out _).trans (hb3.mono (BW.out _).size)).alloc (Nat.le_trans (BW.out _).size hb3.size) _
        clear hb3 ca2 cc2
        go_wp2_with (go_at_call 38; refine (HT.out.walk _).mono ?_; rintro e w4 ⟨rfl, hb4⟩; have q0 := upc (p0 _) hb4; have q1 := upc (p1 _) hb4; have q2 := upc (p2 _) hb4; have q3 := upc (p3 _) hb4; have r0 : w4.cell? ⟨w3.heap.size, 0, none⟩ = some (.int .i64 (-l0)) := (upc (by simp [go_sem]) hb4); have r1 : w4.cell? ⟨w3.heap.size, 1, none⟩ = some (.int .i64 (-l2)) := (upc (by simp [go_sem]) hb4); have r2 : w4.cell? ⟨w3.heap.size, 2, none⟩ = some (.int .i64 (-l1)) := (upc (by simp [go_sem]) hb4); have r3 : w4.cell? ⟨w3.heap.size, 3, none⟩ = some (.int .i64 (-l3)) := (upc (by simp [go_sem]) hb4))
        have BU : Hid (Below wr.heap.size wr w4) := (BV.out _).trans (hb4.mono (BV.out _).size)
        clear hb4 p0 p1 p2 p3 q0 q1 q2 q3 r0 r1 r2 r3
        go_roundw
        case rel => exact ⟨k + 1, by omega, by go_num, RR.out.up BU.out, BB.out.trans (BU.out.mono BB.out.size)⟩
        case measure => simp [intOf]; omega
    · obtain rfl : k = 3 := by omega
      have ca := hrc.ca
      clear hrc hb hlt hk
      rcases HR.out with ⟨l0, l1, l2, l3, h39⟩ | ⟨l0, l1, l2, l3, ht, h0, h39⟩
      · have H39 := Lib.hid h39
        clear h39 HR
        go_wp2_with (go_at_call 35; refine (H39.out _ _ ca).mono ?_; rintro e w2 ⟨rfl, hb2⟩)
        go_ret
        exact ⟨rfl, (BB.out.trans (hb2.mono BB.out.size)).alloc (Nat.le_trans BB.out.size hb2.size) _⟩
      · have H39 := Lib.hid h39
        have HT := Lib.hid ht
        obtain ⟨⟨b0, b0'⟩, ⟨b1, b1'⟩, ⟨b2, b2'⟩, b3, b3'⟩ := ht.bounds
        clear h39 HR ht
        go_wp2_with (first
          | (go_at_call 35; refine (H39.out _ _ ca).mono ?_; rintro e w2 ⟨rfl, hb2⟩)
          | (go_at_call 38; refine (HT.out.walk _).mono ?_; rintro e w4 ⟨rfl, hb4⟩; have q1 : w4.cell? ⟨w2.heap.size, 1, none⟩ = some (.int .i64 l1) := (upc (by simp [go_sem]) hb4)))
        go_ret
        refine ⟨rfl, ?_⟩
        have B2 := (BB.out.trans (hb2.mono BB.out.size)).alloc (Nat.le_trans BB.out.size hb2.size) (.cells #[.int .i64 l0, .int .i64 l1, .int .i64 l2, .int .i64 l3] 53)
        exact B2.trans (hb4.mono B2.size)
end Go.Proofs.YthkhhjfldkebcaaGreatDoor
