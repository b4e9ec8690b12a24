/- Plain: the chapter's examples. Contract: awake. -/
import Derived.Test.YtomcpgdpjpjioaaJu
import Derived.Test.YtomcpgdpjpjioaaPt
import Derived.Test.YtomcpgdpjpjioaaNm
import Derived.Test.YtomcpgdpjpjioaaCu
namespace Go.Proofs.Ytomcpgdpjpjioaa
open Go.RowKit Go.Proofs Go.Shelf

abbrev cdF : Cd := ⟨4, 0, 0, 8, false⟩
abbrev cdW : Cd := ⟨5, 5, 0, 8, false⟩
abbrev sB : St := ⟨1, 0, 0, -196608000⟩
abbrev sA : St := ⟨0, 0, 0, 0⟩
abbrev sC : St := ⟨1, 0, 19660800, -196608000⟩
abbrev thX : Th := ⟨0, 0, false, false, 0⟩
theorem srt_one (s : St) : srt [s] = [s] := List.perm_singleton.1 (srt_perm [s])
theorem ex_four : nmV [102, 111, 117, 114] = .tuple #[Cdv cdF, .int .i64 0] := by
  unfold nmV
  rw [show nmR [102, 111, 117, 114] = some cdF from by unfold nmR; simp]; rfl
theorem ex_world : nmV [119, 111, 114, 108, 100] = .tuple #[Cdv cdW, .int .i64 0] := by
  unfold nmV
  rw [show nmR [119, 111, 114, 108, 100] = some cdW from by unfold nmR; simp]; rfl
theorem ex_prE : prE cdF 1 0 [sB] = 0 := by decide
theorem ex_prK : prK cdF 1 0 [sB] = [0] := by decide
theorem ex_prF : prF cdF 1 0 [sB] = [] := by decide
theorem ex_t1 : thrB [sB] [sA] thX = true := by decide
theorem ex_t2 : thrB [sB] [sA, sC] thX = true := by decide
theorem ex_e1 : juE cdF 1 thX [sB] [sA] = 0 := by unfold juE; rw [ex_t1]; decide
theorem ex_e2 : juE cdF 4 thX [sB] [sA] = 0 := by unfold juE; rw [ex_t1]; decide
theorem ex_e3 : juE cdW 1 thX [sB] [sA, sC] = 0 := by unfold juE; rw [ex_t2]; decide
theorem ex_n1 : juN cdF 1 thX [sB] [sA] = 7 := by decide
theorem ex_n2 : juN cdF 4 thX [sB] [sA] = 0 := by decide
theorem ex_n3 : juN cdW 1 thX [sB] [sA, sC] = 9 := by decide
theorem ex_r1 : juR cdF 1 thX [sB] [sA] = 7 ∧ juP cdF 1 thX [sB] [sA] = [([sB], false)] := by
  unfold juR juP; rw [if_pos ex_e1, if_pos ex_e1, ex_n1]
  refine ⟨rfl, ?_⟩
  show [(srt [sB], false)] = _; rw [srt_one]
theorem ex_r2 : juR cdF 4 thX [sB] [sA] = 0 ∧ juCh cdF 4 thX [sB] [sA] = -1 := by
  unfold juR juCh; rw [if_pos ex_e2, if_pos ex_e2, ex_n2]; exact ⟨rfl, rfl⟩
theorem ex_r3 : juR cdW 1 thX [sB] [sA, sC] = 9 ∧ juCh cdW 1 thX [sB] [sA, sC] = 1 ∧ (juP cdW 1 thX [sB] [sA, sC]).length = 2 := by
  unfold juR juCh juP; rw [if_pos ex_e3, if_pos ex_e3, if_pos ex_e3, ex_n3]
  refine ⟨rfl, rfl, ?_⟩
  have hne : eqL (srt [sA, sC]) (srt [sB]) = false := eqL_no (fun h => by have := congrArg List.length h; rw [srt_len, srt_len] at this; cases this)
  show (ddP [(srt [sA, sC], false), (srt [sB], false)]).length = 2
  simp [ddP, samP, hne]
theorem ex_c1 : juCh cdF 1 thX [sB] [sA] = -1 := by unfold juCh; rw [if_pos ex_e1, ex_n1]; rfl
theorem ex_p2 : (juP cdF 4 thX [sB] [sA]).length = 1 := by unfold juP; rw [if_pos ex_e2, ex_n2]; rfl
abbrev cFv : Value := .agg #[.int .i64 4, .int .i64 0, .int .i64 0, .int .i64 8, .bool false]
abbrev cWv : Value := .agg #[.int .i64 5, .int .i64 5, .int .i64 0, .int .i64 8, .bool false]
abbrev tXv (u : Value) : Value := .agg #[.int .i64 0, .int .i64 0, .bool false, .bool false, .int .i64 0, u]
theorem ex_h9a (W : World) : Calls Try.prog 9 #[.string ⟨#[102, 111, 117, 114]⟩] W (Back (.tuple #[cFv, .int .i64 0]) W) := by
  have h := Named_any ⟨#[102, 111, 117, 114]⟩ (by decide) W
  have e : nmV (ByteArray.data ⟨#[102, 111, 117, 114]⟩).toList = _ := ex_four
  rwa [e] at h
theorem ex_h9b (W : World) : Calls Try.prog 9 #[.string ⟨#[119, 111, 114, 108, 100]⟩] W (Back (.tuple #[cWv, .int .i64 0]) W) := by
  have h := Named_any ⟨#[119, 111, 114, 108, 100]⟩ (by decide) W
  have e : nmV (ByteArray.data ⟨#[119, 111, 114, 108, 100]⟩).toList = _ := ex_world
  rwa [e] at h
/-- A ruling in a variable. -/
def JdV (W : World) (base b : Nat) (r ch : Int) (v : Value) (P : List Pr) : Prop := R3 W b r ch v ∧ RulAt W base v P ∧ base ≤ b
theorem JdV.up {W W' : World} {base b : Nat} {r ch : Int} {v : Value} {P : List Pr} (h : JdV W base b r ch v P) (hb : Below W.heap.size W W') : JdV W' base b r ch v P := ⟨h.1.up hb, h.2.1.up hb, h.2.2⟩
theorem JdV.kept {W W' : World} {base b k : Nat} {r ch : Int} {v : Value} {P : List Pr} (h : JdV W base b r ch v P) (hg : W.grownBy W' (some k)) (hk : k < base) : JdV W' base b r ch v P := ⟨h.1.kept hg (by have := h.2.2; simp; omega), h.2.1.kept hg hk, h.2.2⟩
theorem Cd5.kept {w w' : World} {b : Nat} {c : Cd} {row : Option Nat} (h : Cd5 w b c) (hg : w.grownBy w' row) (hne : some b ≠ row) : Cd5 w' b c := by
  obtain ⟨h0, h1, h2, h3, h4⟩ := h
  exact ⟨hg.cell h0 hne, hg.cell h1 hne, hg.cell h2 hne, hg.cell h3 hne, hg.cell h4 hne⟩
theorem JdV.new {W : World} {base : Nat} {r ch : Int} {v : Value} {P : List Pr} (h : RulAt W base v P) (hb : base ≤ W.heap.size) : JdV (W.alloc (.cells #[.int .i64 r, .int .i64 ch, v] 40)) base W.heap.size r ch v P :=
  ⟨R3.new W r ch v, h.up ((Below.refl _ _).alloc (Nat.le_refl _) _), hb⟩
theorem ex_h11 (v : Value) (W : World) (h : RowS W v [sB]) : Calls Try.prog 11 #[cFv, .int .i64 1, .int .i64 0, v] W fun e w' => (∃ A1 c1 A2 c2, e = .returned (.tuple #[.slice A1 1 c1, .slice A2 0 c2, .int .i64 0])) ∧ Below W.heap.size W w' := by
  refine (Protected_any cdF 1 0 [sB] v W h).mono ?_
  rintro e w' ⟨⟨A1, n1, c1, A2, n2, c2, rfl, h1, h2⟩, hb⟩
  rw [ex_prK] at h1
  rw [ex_prF] at h2
  obtain ⟨A1', k1, e1, -⟩ := h1
  obtain ⟨A2', k2, e2, -⟩ := h2
  rw [e1, e2, ex_prE]
  exact ⟨⟨_, _, _, _, rfl⟩, hb⟩
theorem ex_h17a (v u : Value) (W : World) (hv : RowS W v [sB]) (hu : RowS W u [sA]) : Calls Try.prog 17 #[cFv, .int .i64 1, v, tXv u] W fun e w' => (∃ A c, e = .returned (.tuple #[.agg #[.int .i64 7, .int .i64 (-1), .slice A 1 c], .int .i64 0]) ∧ RulAt w' W.heap.size (.slice A 1 c) [([sB], false)]) ∧ Below W.heap.size W w' := by
  refine (Judge_any cdF 1 thX [sB] [sA] v u W hv hu).mono ?_
  rintro e w' ⟨⟨v', rfl, h⟩, hb⟩
  rw [ex_r1.2] at h
  rw [ex_r1.1, ex_c1, ex_e1]
  obtain ⟨A, c, rfl⟩ := h.form
  exact ⟨⟨A, c, rfl, h⟩, hb⟩
theorem ex_h17b (v u : Value) (W : World) (hv : RowS W v [sB]) (hu : RowS W u [sA]) : Calls Try.prog 17 #[cFv, .int .i64 4, v, tXv u] W fun e w' => (∃ A c, e = .returned (.tuple #[.agg #[.int .i64 0, .int .i64 (-1), .slice A 1 c], .int .i64 0])) ∧ Below W.heap.size W w' := by
  refine (Judge_any cdF 4 thX [sB] [sA] v u W hv hu).mono ?_
  rintro e w' ⟨⟨v', rfl, h⟩, hb⟩
  rw [ex_r2.1, ex_r2.2, ex_e2]
  obtain ⟨A, c, rfl⟩ := h.form
  rw [ex_p2]
  exact ⟨⟨A, c, rfl⟩, hb⟩
theorem ex_h17c (v u : Value) (W : World) (hv : RowS W v [sB]) (hu : RowS W u [sA, sC]) : Calls Try.prog 17 #[cWv, .int .i64 1, v, tXv u] W fun e w' => (∃ A c, e = .returned (.tuple #[.agg #[.int .i64 9, .int .i64 1, .slice A 2 c], .int .i64 0])) ∧ Below W.heap.size W w' := by
  refine (Judge_any cdW 1 thX [sB] [sA, sC] v u W hv hu).mono ?_
  rintro e w' ⟨⟨v', rfl, h⟩, hb⟩
  rw [ex_r3.1, ex_r3.2.1, ex_e3]
  obtain ⟨A, c, rfl⟩ := h.form
  rw [ex_r3.2.2]
  exact ⟨⟨A, c, rfl⟩, hb⟩
theorem ownS_up {base e sz n : Nat} {v : Value} {xs : List Value} {W w2 : World} (h : W.ownsRow base e sz v n xs) (hb : Below W.heap.size W w2) : w2.ownsRow base e sz v n xs := by
  obtain ⟨q1, q2⟩ := h
  refine ⟨q1, q2.imp_right ?_⟩
  rintro ⟨g, cap, cur, q3, q4, q5, q6⟩
  exact ⟨g, cap, cur, q3, q4, boxed_cells_up q5 hb, q6⟩
/-- What awake has made. -/
def AwS (w W : World) (pF pW pB pA pX : Nat) : Prop :=
  Below w.heap.size w W ∧ Cd5 W pF cdF ∧ Cd5 W pW cdW ∧ OwnS w.heap.size W (.slice (some ⟨pB, 0, none⟩) 1 1) [sB] ∧ OwnS w.heap.size W (.slice (some ⟨pA, 0, none⟩) 1 1) [sA] ∧ Th6 W pX thX (.slice (some ⟨pA, 0, none⟩) 1 1) ∧ W.frozen? ⟨pX, 5, none⟩ = false ∧ (pW < pA ∧ pB < pA ∧ pX = pA + 1)
theorem AwS.up {w W W' : World} {pF pW pB pA pX : Nat} (h : AwS w W pF pW pB pA pX) (hb : Below W.heap.size W W') : AwS w W' pF pW pB pA pX := by
  obtain ⟨h1, h2, h3, h4, h5, h6, h7, h8⟩ := h
  refine ⟨h1.trans (hb.mono h1.size), h2.up hb, h3.up hb, ownS_up h4 hb, ownS_up h5 hb, h6.up hb, ?_, h8⟩
  rw [frozen_heap (hb.block pX (lt_cell h6.1))]; exact h7
theorem AwS.below {w W : World} {pF pW pB pA pX : Nat} (h : AwS w W pF pW pB pA pX) : Below w.heap.size w W := h.1
theorem AwS.rowB {w W : World} {pF pW pB pA pX : Nat} (h : AwS w W pF pW pB pA pX) : RowS W (.slice (some ⟨pB, 0, none⟩) 1 1) [sB] := RowS.of_own h.2.2.2.1 (by simp)
theorem AwS.rowA {w W : World} {pF pW pB pA pX : Nat} (h : AwS w W pF pW pB pA pX) : RowS W (.slice (some ⟨pA, 0, none⟩) 1 1) [sA] := RowS.of_own h.2.2.2.2.1 (by simp)
/-- Behind the append. -/
def AwT (w W : World) (pW pB pX : Nat) (u : Value) : Prop :=
  Below w.heap.size w W ∧ Cd5 W pW cdW ∧ RowS W (.slice (some ⟨pB, 0, none⟩) 1 1) [sB] ∧ Th6 W pX thX u ∧ RowS W u [sA, sC]
theorem AwT.up {w W W' : World} {pW pB pX : Nat} {u : Value} (h : AwT w W pW pB pX u) (hb : Below W.heap.size W W') : AwT w W' pW pB pX u := by
  obtain ⟨h1, h3, h4, h6, h7⟩ := h
  exact ⟨h1.trans (hb.mono h1.size), h3.up hb, h4.up hb, h6.up hb, h7.up hb⟩
theorem AwT.rowB {w W : World} {pW pB pX : Nat} {u : Value} (h : AwT w W pW pB pX u) : RowS W (.slice (some ⟨pB, 0, none⟩) 1 1) [sB] := h.2.2.1
theorem AwT.rowA {w W : World} {pW pB pX : Nat} {u : Value} (h : AwT w W pW pB pX u) : RowS W u [sA, sC] := h.2.2.2.2
theorem AwT.below {w W : World} {pW pB pX : Nat} {u : Value} (h : AwT w W pW pB pX u) : Below w.heap.size w W := h.1
/-- From the one to the other: the append (into world w9), and the store of the new slice. -/
theorem AwS.append {w W w9 : World} {pF pW pB pA pX g c : Nat} (h : AwS w W pF pW pB pA pX) (hg : W.grownBy w9 (some pA)) (hown : OwnS w.heap.size w9 (.slice (some ⟨g, 0, none⟩) 2 c) [sA, sC]) (hat : g = pA ∨ g = W.heap.size) (hpX : pX < W.heap.size) (hwA : w.heap.size ≤ pA) :
    AwT w (w9.setCell ⟨pX, 5, none⟩ (.slice (some ⟨g, 0, none⟩) 2 c)) pW pB pX (.slice (some ⟨g, 0, none⟩) 2 c) := by
  obtain ⟨h1, h2, h3, h4, h5, ⟨a0, a1, a2, a3, a4, a5⟩, h7, n1, n2, n3⟩ := h
  have hs := grown_set w9 ⟨pX, 5, none⟩ (.slice (some ⟨g, 0, none⟩) 2 c)
  have hx : some pX ≠ some pA := by simp; omega
  have hsz : pX < w9.heap.size := Nat.lt_of_lt_of_le hpX hg.size
  have hgx : g ≠ pX := by omega
  have k5 := hg.cell a5 hx
  refine ⟨?_, (h3.kept hg (by simp; omega)).kept hs (by simp; omega), ((RowS.of_own h4 (by simp)).kept hg (by simp; omega)).kept hs (by simp; omega), ⟨?_, ?_, ?_, ?_, ?_, ?_⟩, (RowS.of_own hown (by simp)).kept hs (by simpa using hgx)⟩
  · exact (h1.grown hg h1.size (fun j e => by injection e with e; omega)).setCell (p := ⟨pX, 5, none⟩) (by simp; omega) _
  · have := hg.cell a0 hx; simp_all [go_sem]
  · have := hg.cell a1 hx; simp_all [go_sem]
  · have := hg.cell a2 hx; simp_all [go_sem]
  · have := hg.cell a3 hx; simp_all [go_sem]
  · have := hg.cell a4 hx; simp_all [go_sem]
  · simp_all [go_sem]
end Go.Proofs.Ytomcpgdpjpjioaa

namespace Go.Proofs.Ytomcpgdpjpjioaa
open Go.RowKit Go.Proofs Go.Shelf
attribute [local go_sem] Oper.semAt_some

attribute [local irreducible] Go.wpOp Go.Region.wanted Go.yielded
set_option maxRecDepth 100000 in
set_option maxHeartbeats 8000000 in
theorem awake_any (w : World) : Calls Try.prog 8 #[] w (Back (.bool true) w) := by
  obtain ⟨i0, hi, hz0, hz1, hz2⟩ := info_parts Try.info53
  have H9a := Lib.hid ex_h9a
  have H9b := Lib.hid ex_h9b
  have H30a := Lib.hid (fun W => at_any 0 (-3000) W (by omega) (by omega))
  have H30b := Lib.hid (fun W => at_any 0 0 W (by omega) (by omega))
  go_enter Try.func8, Try.ntmps8
  go_upto_region 2 with (go_at_call 9; (with_reducible refine (H9a.out _).mono ?_); rintro e1 w1 ⟨rfl, hb1⟩; have B := Lib.hid hb1; clear hb1)
  generalize hwa : World.alloc w1 _ = wa
  have CF : Hid (Cd5 wa w1.heap.size cdF) := by show Cd5 _ _ _; rw [← hwa]; exact Cd5.new w1 cdF
  have hba : Below w1.heap.size w1 wa := by rw [← hwa]; exact (Below.refl _ _).alloc (Nat.le_refl _) _
  replace B := Lib.hid (B.out.trans (hba.mono B.out.size))
  obtain ⟨pF, hpF⟩ : ∃ p, w1.heap.size = p := ⟨_, rfl⟩
  rw [hpF] at CF
  rw [hpF]
  clear hwa hba hpF H9a
  go_upto_region 3 with (go_at_call 9; (with_reducible refine (H9b.out _).mono ?_); rintro e1 w2 ⟨rfl, hb1⟩; replace CF := Lib.hid (CF.out.up hb1); replace B := Lib.hid (B.out.trans (hb1.mono B.out.size)); clear hb1)
  generalize hwb : World.alloc w2 _ = wb
  have CW : Hid (Cd5 wb w2.heap.size cdW) := by show Cd5 _ _ _; rw [← hwb]; exact Cd5.new w2 cdW
  have hbb : Below w2.heap.size w2 wb := by rw [← hwb]; exact (Below.refl _ _).alloc (Nat.le_refl _) _
  replace B := Lib.hid (B.out.trans (hbb.mono B.out.size))
  replace CF := Lib.hid (CF.out.up hbb)
  obtain ⟨pW, hpW⟩ : ∃ p, w2.heap.size = p := ⟨_, rfl⟩
  rw [hpW] at CW
  rw [hpW]
  clear hwb hbb hpW H9b
  go_upto_region 6 with (go_at_call 30; (with_reducible refine (H30a.out _).mono ?_); rintro e1 w3 ⟨rfl, hb1⟩; replace CF := Lib.hid (CF.out.up hb1); replace CW := Lib.hid (CW.out.up hb1); replace B := Lib.hid (B.out.trans (hb1.mono B.out.size)); clear hb1 H30a)
  generalize hwc : World.alloc w3 _ = wc
  have OB : Hid (OwnS w.heap.size wc (.slice (some ⟨w3.heap.size, 0, none⟩) 1 1) [sB]) := by show OwnS _ _ _ _; rw [← hwc]; exact World.ownsRow_lit w3 #[.int .i64 1, .int .i64 0, .int .i64 0, .int .i64 (-196608000)] 1 B.out.size (by unfold maxLen; omega) rfl
  have hbc : Below w3.heap.size w3 wc := by rw [← hwc]; exact (Below.refl _ _).alloc (Nat.le_refl _) _
  replace B := Lib.hid (B.out.trans (hbc.mono B.out.size))
  replace CF := Lib.hid (CF.out.up hbc)
  replace CW := Lib.hid (CW.out.up hbc)
  obtain ⟨pB, hpB⟩ : ∃ p, w3.heap.size = p := ⟨_, rfl⟩
  rw [hpB] at OB
  rw [hpB]
  clear hwc hbc hpB
  obtain ⟨a0, a1, a2, a3, a4⟩ := CF.out
  go_upto_region 7 with (go_at_call 11; (with_reducible refine (ex_h11 _ _ (RowS.of_own OB.out (by simp))).mono ?_); rintro e1 w4 ⟨⟨A1, c1, A2, c2, rfl⟩, hb1⟩; replace CF := Lib.hid (CF.out.up hb1); replace CW := Lib.hid (CW.out.up hb1); replace OB := Lib.hid (ownS_up OB.out hb1); replace B := Lib.hid (B.out.trans (hb1.mono B.out.size)); clear hb1 a0 a1 a2 a3 a4)
  go_upto_region 8 with (go_at_call 30; (with_reducible refine (H30b.out _).mono ?_); rintro e1 w5 ⟨rfl, hb1⟩; replace CF := Lib.hid (CF.out.up hb1); replace CW := Lib.hid (CW.out.up hb1); replace OB := Lib.hid (ownS_up OB.out hb1); replace B := Lib.hid (B.out.trans (hb1.mono B.out.size)); clear hb1 H30b)
  generalize hwd : World.alloc (World.alloc w5 _) _ = wd
  have AW : Hid (AwS w wd pF pW pB w5.heap.size (w5.heap.size + 1)) := by
    show AwS _ _ _ _ _ _ _
    obtain ⟨wm, hwm⟩ : ∃ wm, w5.alloc (.cells #[.int .i64 0, .int .i64 0, .int .i64 0, .int .i64 0] 53) = wm := ⟨_, rfl⟩
    rw [hwm] at hwd
    have hsm : wm.heap.size = w5.heap.size + 1 := by rw [← hwm]; simp
    have hb5 : Below w5.heap.size w5 wm := by rw [← hwm]; exact (Below.refl _ _).alloc (Nat.le_refl _) _
    have hbm : Below wm.heap.size wm wd := by rw [← hwd]; exact (Below.refl _ _).alloc (Nat.le_refl _) _
    have hb : Below w5.heap.size w5 wd := hb5.trans (hbm.mono (by omega))
    have oa : OwnS w.heap.size wm (.slice (some ⟨w5.heap.size, 0, none⟩) 1 1) [sA] := by rw [← hwm]; exact World.ownsRow_lit w5 #[.int .i64 0, .int .i64 0, .int .i64 0, .int .i64 0] 1 B.out.size (by unfold maxLen; omega) rfl
    have tx : Th6 wd wm.heap.size thX (.slice (some ⟨w5.heap.size, 0, none⟩) 1 1) := by rw [← hwd]; exact Th6.new wm thX _
    have fx : wd.frozen? ⟨wm.heap.size, 5, none⟩ = false := by rw [← hwd]; simp [go_sem]
    rw [hsm] at tx fx
    exact ⟨B.out.trans (hb.mono B.out.size), CF.out.up hb, CW.out.up hb, ownS_up OB.out hb, ownS_up oa hbm, tx, fx, lt_cell CW.out.1, lt_cell (OB.out.cellAt 0 (by decide)), rfl⟩
  have HWA := Lib.hid B.out.size
  obtain ⟨pA, hpA⟩ : ∃ p, w5.heap.size = p := ⟨_, rfl⟩
  rw [hpA] at AW HWA
  rw [hpA]
  obtain ⟨pX, hpX⟩ : ∃ p, pA + 1 = p := ⟨_, rfl⟩
  rw [hpX] at AW
  rw [hpX]
  clear hwd hpA hpX B CF CW OB
  obtain ⟨-, ⟨a0, a1, a2, a3, a4⟩, -, -, -, ⟨x0, x1, x2, x3, x4, x5⟩, -⟩ := AW.out
  go_upto_region 9 with (go_at_call 17; (with_reducible refine (ex_h17a _ _ _ (AwS.rowB AW.out) (AwS.rowA AW.out)).mono ?_); rintro e1 w6 ⟨⟨A6, c6, rfl, hr⟩, hb1⟩; have hsz := lt_cell (AW.out.2.2.2.2.2.1.1); have HS6 := Lib.hid hsz; have HS7 := Lib.hid hb1.size; replace AW := Lib.hid (AW.out.up hb1); have R6 := Lib.hid hr; clear hr hb1 hsz a0 a1 a2 a3 a4 x0 x1 x2 x3 x4 x5)
  generalize hwe : World.alloc w6 _ = we
  have JA : Hid (JdV we wd.heap.size w6.heap.size 7 (-1) (.slice A6 1 c6) [([sB], false)]) := by show JdV _ _ _ _ _ _ _; rw [← hwe]; exact JdV.new R6.out HS7.out
  have hbe : Below w6.heap.size w6 we := by rw [← hwe]; exact (Below.refl _ _).alloc (Nat.le_refl _) _
  replace AW := Lib.hid (AW.out.up hbe)
  obtain ⟨pJ, hpJ⟩ : ∃ p, w6.heap.size = p := ⟨_, rfl⟩
  rw [hpJ] at JA
  rw [hpJ]
  obtain ⟨bJ, hbJ⟩ : ∃ p, wd.heap.size = p := ⟨_, rfl⟩
  rw [hbJ] at JA HS6
  clear hbJ HS7
  clear hwe hbe hpJ R6
  obtain ⟨-, ⟨a0, a1, a2, a3, a4⟩, -, -, -, ⟨x0, x1, x2, x3, x4, x5⟩, -⟩ := AW.out
  go_upto_region 10 with (go_at_call 17; (with_reducible refine (ex_h17b _ _ _ (AwS.rowB AW.out) (AwS.rowA AW.out)).mono ?_); rintro e1 w7 ⟨⟨A7, c7, rfl⟩, hb1⟩; replace AW := Lib.hid (AW.out.up hb1); replace JA := Lib.hid (JA.out.up hb1); clear hb1 a0 a1 a2 a3 a4 x0 x1 x2 x3 x4 x5)
  generalize hwf : World.alloc w7 _ = wf
  have JB : Hid (R3 wf w7.heap.size 0 (-1) (.slice A7 1 c7)) := by show R3 _ _ _ _ _; rw [← hwf]; exact R3.new w7 0 (-1) _
  have HPK : Hid (pX < w7.heap.size) := lt_cell (AW.out.2.2.2.2.2.1.1)
  have hbf : Below w7.heap.size w7 wf := by rw [← hwf]; exact (Below.refl _ _).alloc (Nat.le_refl _) _
  replace AW := Lib.hid (AW.out.up hbf)
  replace JA := Lib.hid (JA.out.up hbf)
  have HPX : Hid (pX < wf.heap.size) := lt_cell (AW.out.2.2.2.2.2.1.1)
  obtain ⟨pK, hpK⟩ : ∃ p, w7.heap.size = p := ⟨_, rfl⟩
  rw [hpK] at JB HPK
  rw [hpK]
  clear hwf hbf hpK
  have hdr : Below wf.heap.size wf wf.drew := (Below.refl _ _).drew
  have x5 := AW.out.2.2.2.2.2.1.2.2.2.2.2
  replace AW := Lib.hid (AW.out.up hdr)
  replace JA := Lib.hid (JA.out.up hdr)
  replace JB := Lib.hid (JB.out.up hdr)
  clear hdr
  refine wp_region_P (fun i w' => i = 1 → w'.cell? ⟨pX, 5, none⟩ = some (.slice (some ⟨pA, 0, none⟩) 1 1)) (by kernel_rfl) ?_
  refine wpAnyP_take (i := 0) (v := .pointer (some ⟨pX, 5, none⟩)) rfl (by kernel_rfl) (by kernel_rfl) (by kernel_rfl) (fun _ _ _ h => h) (yieldsIf_run rfl (fun wq hS => ?_)) (fun h => by omega) ?_
  · go_simp
  refine wpAnyP_take (i := 1) (v := .slice (some ⟨pA, 0, none⟩) 1 1) rfl (by kernel_rfl) (by kernel_rfl) (by kernel_rfl) (fun _ _ _ h => h) (yieldsIf_run rfl (fun wq hS => ?_)) (fun _ => x5) ?_
  · have hS := hS rfl
    go_simp
  refine wpAnyP_one (i := 2) (by kernel_rfl) (wpOp_call (f := 30) (args := #[.int .i64 300, .int .i64 (-3000)]) rfl rfl (by kernel_rfl) ?_)
  refine (at_any 300 (-3000) _ (by omega) (by omega)).mono ?_
  rintro e1 w8 ⟨rfl, hb8⟩
  refine ⟨_, rfl, fun _ _ hS h => upc (hS h) hb8, ?_⟩
  have hpx8 : pX < w8.heap.size := Nat.lt_of_lt_of_le HPX.out hb8.size
  replace AW := Lib.hid (AW.out.up hb8)
  replace JA := Lib.hid (JA.out.up hb8)
  replace JB := Lib.hid (JB.out.up hb8)
  refine wpAnyP_one (i := 3) (by kernel_rfl) (wpOp_run (v := Stv sC) (w' := w8) rfl rfl (by go_simp) ⟨fun _ _ hS => hS, ?_⟩)
  have hb9 : Below w8.heap.size w8 (w8.alloc (.cells #[.int .i64 1, .int .i64 0, .int .i64 19660800, .int .i64 (-196608000)] 53)) := (Below.refl _ _).alloc (Nat.le_refl _) _
  refine wpAnyP_one (i := 4) (by kernel_rfl) (wpOp_run (v := .slice (some ⟨w8.heap.size, 0, none⟩) 1 1) (w' := w8.alloc (.cells #[.int .i64 1, .int .i64 0, .int .i64 19660800, .int .i64 (-196608000)] 53)) rfl rfl (by go_simp) ⟨fun _ _ hS h => upc (hS h) hb9, ?_⟩)
  replace AW := Lib.hid (AW.out.up hb9)
  replace JA := Lib.hid (JA.out.up hb9)
  replace JB := Lib.hid (JB.out.up hb9)
  obtain ⟨v9, w9, hrun, hown, hgrow, hnil, hat⟩ := run_append_own_at (P := Try.prog) (w8.alloc (.cells #[.int .i64 1, .int .i64 0, .int .i64 19660800, .int .i64 (-196608000)] 53)) w.heap.size 24 24 53 i0 _ 4 32 Try.underlying24 hi hz0 hz1 hz2 rfl (by decide) _ _ _ AW.out.2.2.2.2.1 ⟨w8.heap.size, 0, none⟩ 1 1 (stC sC) rfl (news_lit w8 sC) (fun u h => stC_one1 h) (by show 1 + 1 ≤ maxLen; unfold maxLen; omega) (by show (1 + 1) * 32 ≤ 140737488355328; omega) AW.out.1.size
  obtain ⟨g9, c9, rfl⟩ : ∃ g c, v9 = .slice (some ⟨g, 0, none⟩) 2 c := by
    rcases hown.2 with ⟨rfl, h0⟩ | ⟨g, cap, cur, rfl, -⟩
    · cases h0
    · exact ⟨g, cap, rfl⟩
  have hg9 : g9 = pA ∨ g9 = (w8.alloc (.cells #[.int .i64 1, .int .i64 0, .int .i64 19660800, .int .i64 (-196608000)] 53)).heap.size := by
    rcases hat with h | h
    · left; simpa [Value.ownBlock] using h
    · right; simpa [Value.ownBlock] using h
  have hgr : World.grownBy (w8.alloc (.cells #[.int .i64 1, .int .i64 0, .int .i64 19660800, .int .i64 (-196608000)] 53)) w9 (some pA) := hgrow
  have hxa : some pX ≠ some pA := by have := AW.out.2.2.2.2.2.2.2.2.2; simp; omega
  refine wpAnyP_one (i := 5) (by kernel_rfl) (wpOp_run (v := .slice (some ⟨g9, 0, none⟩) 2 c9) (w' := w9) rfl rfl ?_ ⟨fun _ _ hS h => hgr.cell (hS h) hxa, ?_⟩)
  · exact run_append_op rfl (by kernel_rfl) (by kernel_rfl) hrun
  have x59 := hgr.cell (AW.out.2.2.2.2.2.1.2.2.2.2.2) hxa
  have f59 : w9.frozen? ⟨pX, 5, none⟩ = false := by rw [frozen_heap (hgr.block pX (by simp; omega) hxa)]; exact AW.out.2.2.2.2.2.2.1
  have hpXJ : pX < bJ := HS6.out
  have hpXA : pA < pX := by have := AW.out.2.2.2.2.2.2.2.2.2; omega
  have AT := Lib.hid (AW.out.append hgr hown hg9 (by simp; omega) HWA.out)
  have hsx := grown_set w9 ⟨pX, 5, none⟩ (.slice (some ⟨g9, 0, none⟩) 2 c9)
  have hpKX : pX < pK := HPK.out
  replace JA := Lib.hid ((JA.out.kept hgr (by omega)).kept hsx (by show _ < _; omega))
  replace JB := Lib.hid ((JB.out.kept hgr (by simp; omega)).kept hsx (by simp; omega))
  refine wpAnyP_one (i := 6) (by kernel_rfl) (wpOp_run (v := .pointer (some ⟨pX, 5, none⟩)) (w' := w9) rfl rfl (by go_simp) ⟨fun _ _ hS => hS, ?_⟩)
  refine wpAnyP_one (i := 7) (by kernel_rfl) (wpOp_skip (w' := w9.setCell ⟨pX, 5, none⟩ (.slice (some ⟨g9, 0, none⟩) 2 c9)) rfl rfl ?_ ⟨fun k hfr hS => ?_, ?_⟩)
  · unfold execOp
    go_simp
  · rintro rfl
    exact absurd (Eq.trans (by kernel_rfl) hfr : false = true) (by decide)
  refine wpAnyP_done (by kernel_rfl) ?_ _
  generalize hwg : World.setCell w9 _ _ = wg
  rw [hwg] at AT JA JB
  clear hwg hsx f59 x59 hxa hgr hg9 hnil hat hgrow hown hrun hb9 hpx8 hb8 x5 HPX AW hpXJ hpXA hpKX HPK HS6 HWA
  obtain ⟨-, ⟨a0, a1, a2, a3, a4⟩, -, ⟨x0, x1, x2, x3, x4, x5⟩, -⟩ := AT.out
  go_upto_region 12 with (go_at_call 17; (with_reducible refine (ex_h17c _ _ _ (AwT.rowB AT.out) (AwT.rowA AT.out)).mono ?_); rintro e1 w6 ⟨⟨A8, c8, rfl⟩, hb1⟩; replace AT := Lib.hid (AT.out.up hb1); replace JA := Lib.hid (JA.out.up hb1); replace JB := Lib.hid (JB.out.up hb1); clear hb1 a0 a1 a2 a3 a4 x0 x1 x2 x3 x4 x5)
  generalize hwh : World.alloc w6 _ = wh
  have JC : Hid (R3 wh w6.heap.size 9 1 (.slice A8 2 c8)) := by show R3 _ _ _ _ _; rw [← hwh]; exact R3.new w6 9 1 _
  have hbh : Below w6.heap.size w6 wh := by rw [← hwh]; exact (Below.refl _ _).alloc (Nat.le_refl _) _
  replace AT := Lib.hid (AT.out.up hbh)
  replace JA := Lib.hid (JA.out.up hbh)
  replace JB := Lib.hid (JB.out.up hbh)
  obtain ⟨pL, hpL⟩ : ∃ p, w6.heap.size = p := ⟨_, rfl⟩
  rw [hpL] at JC
  rw [hpL]
  clear hwh hbh hpL
  obtain ⟨⟨ja0, ja1, ja2⟩, -⟩ := JA.out.1.cells
  obtain ⟨A', c', L, he, hro, hoc, hmap, -⟩ := JA.out.2.1
  obtain ⟨o, hLo, hol, hog⟩ : ∃ o : Oc, L = [o] ∧ o.l = [sB] ∧ o.g = false := by
    rcases L with _ | ⟨o, _ | ⟨o2, L⟩⟩
    · cases hmap
    · refine ⟨o, rfl, ?_, ?_⟩
      · have := congrArg (fun l => (l.map Prod.fst)) hmap; simpa [oP] using this
      · have := congrArg (fun l => (l.map Prod.snd)) hmap; simpa [oP] using this
    · have := congrArg List.length hmap; simp at this
  subst hLo
  obtain ⟨hov, -⟩ := hoc o (List.mem_cons_self ..)
  obtain ⟨A2', cap2, he2, -, -, hcell⟩ := hro
  injection he with ea en ec
  injection he2 with ea2 en2 ec2
  obtain ⟨bo, oo, hbo, hcell⟩ := hcell (by simp)
  have q0 := (hcell 0 (by simp)).1
  have hA6 : A6 = some ⟨bo, oo, none⟩ := by rw [ea2, hbo]
  subst hA6
  rw [hol] at hov
  have HOV := Lib.hid hov
  simp only [List.getElem_cons_zero, Nat.zero_mul, Nat.add_zero] at q0
  have H31 : Hid (∀ W, Below wh.heap.size wh W → Calls Try.prog 31 #[o.v, .slice (some ⟨pB, 0, none⟩) 1 1] W fun e w' => e = .returned (.bool true) ∧ Below W.heap.size W w') := fun W hW => Same_eq [sB] _ _ W (HOV.out.up hW) ((AwT.rowB AT.out).up hW)
  obtain ⟨vo, hvo⟩ : ∃ v, o.v = v := ⟨_, rfl⟩
  obtain ⟨Av, nv, cv, hfo⟩ : ∃ A n c, vo = .slice A n c := by obtain ⟨A, c, h⟩ := hov.form; exact ⟨A, _, c, by rw [← hvo, h]⟩
  rw [hvo] at q0 H31
  subst hfo
  clear en en2 hmap hol hog hov hvo HOV ea ec ea2 ec2 hbo hcell hoc
  go_upto_region 13 with (go_at_call 31; (with_reducible refine (H31.out _ (Below.refl _ _)).mono ?_); rintro e1 w7 ⟨rfl, hb1⟩; replace AT := Lib.hid (AT.out.up hb1); replace JB := Lib.hid (JB.out.up hb1); replace JC := Lib.hid (JC.out.up hb1); clear hb1 H31 q0 ja0 ja1 ja2 JA)
  obtain ⟨⟨jb0, jb1, jb2⟩, -⟩ := JB.out.cells
  obtain ⟨⟨jc0, jc1, jc2⟩, -⟩ := JC.out.cells
  go_wp2_with fail
  go_ret
  exact ⟨rfl, AT.out.1⟩
end Go.Proofs.Ytomcpgdpjpjioaa
