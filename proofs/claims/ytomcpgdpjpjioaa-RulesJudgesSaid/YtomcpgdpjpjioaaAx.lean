/- Plain: the chapter's examples. -/
import Derived.Test.YtomcpgdpjpjioaaJu
import Derived.Test.YtomcpgdpjpjioaaPt
import Derived.Test.YtomcpgdpjpjioaaNm
namespace Go.Proofs.Ytomcpgdpjpjioaa
open Go.RowKit Go.Proofs Go.Shelf

abbrev cdF : Cd := ⟨4, 0, 0, 8, false⟩
abbrev cdW : Cd := ⟨5, 5, 0, 8, false⟩
abbrev sB : St := ⟨1, 0, 0, -196608000⟩
abbrev sA : St := ⟨0, 0, 0, 0⟩
abbrev sC : St := ⟨1, 0, 19660800, -196608000⟩
abbrev thX : Th := ⟨0, 0, false, false, 0⟩
theorem srt_one (s : St) : srt [s] = [s] := List.perm_singleton.1 (srt_perm [s])
theorem ex_four : nmV [102, 111, 117, 114] = .tuple #[Cdv cdF, .int .i64 0] := by
  unfold nmV
  rw [show nmR [102, 111, 117, 114] = some cdF from by unfold nmR; simp]; rfl
theorem ex_world : nmV [119, 111, 114, 108, 100] = .tuple #[Cdv cdW, .int .i64 0] := by
  unfold nmV
  rw [show nmR [119, 111, 114, 108, 100] = some cdW from by unfold nmR; simp]; rfl
theorem ex_prE : prE cdF 1 0 [sB] = 0 := by decide
theorem ex_prK : prK cdF 1 0 [sB] = [0] := by decide
theorem ex_prF : prF cdF 1 0 [sB] = [] := by decide
theorem ex_t1 : thrB [sB] [sA] thX = true := by decide
theorem ex_t2 : thrB [sB] [sA, sC] thX = true := by decide
theorem ex_e1 : juE cdF 1 thX [sB] [sA] = 0 := by unfold juE; rw [ex_t1]; decide
theorem ex_e2 : juE cdF 4 thX [sB] [sA] = 0 := by unfold juE; rw [ex_t1]; decide
theorem ex_e3 : juE cdW 1 thX [sB] [sA, sC] = 0 := by unfold juE; rw [ex_t2]; decide
theorem ex_n1 : juN cdF 1 thX [sB] [sA] = 7 := by decide
theorem ex_n2 : juN cdF 4 thX [sB] [sA] = 0 := by decide
theorem ex_n3 : juN cdW 1 thX [sB] [sA, sC] = 9 := by decide
theorem ex_r1 : juR cdF 1 thX [sB] [sA] = 7 ∧ juP cdF 1 thX [sB] [sA] = [([sB], false)] := by
  unfold juR juP; rw [if_pos ex_e1, if_pos ex_e1, ex_n1]
  refine ⟨rfl, ?_⟩
  show [(srt [sB], false)] = _; rw [srt_one]
theorem ex_r2 : juR cdF 4 thX [sB] [sA] = 0 ∧ juCh cdF 4 thX [sB] [sA] = -1 := by
  unfold juR juCh; rw [if_pos ex_e2, if_pos ex_e2, ex_n2]; exact ⟨rfl, rfl⟩
theorem ex_r3 : juR cdW 1 thX [sB] [sA, sC] = 9 ∧ juCh cdW 1 thX [sB] [sA, sC] = 1 ∧ (juP cdW 1 thX [sB] [sA, sC]).length = 2 := by
  unfold juR juCh juP; rw [if_pos ex_e3, if_pos ex_e3, if_pos ex_e3, ex_n3]
  refine ⟨rfl, rfl, ?_⟩
  have hne : eqL (srt [sA, sC]) (srt [sB]) = false := eqL_no (fun h => by have := congrArg List.length h; rw [srt_len, srt_len] at this; cases this)
  show (ddP [(srt [sA, sC], false), (srt [sB], false)]).length = 2
  simp [ddP, samP, hne]
theorem ex_c1 : juCh cdF 1 thX [sB] [sA] = -1 := by unfold juCh; rw [if_pos ex_e1, ex_n1]; rfl
theorem ex_p2 : (juP cdF 4 thX [sB] [sA]).length = 1 := by unfold juP; rw [if_pos ex_e2, ex_n2]; rfl
abbrev cFv : Value := .agg #[.int .i64 4, .int .i64 0, .int .i64 0, .int .i64 8, .bool false]
abbrev cWv : Value := .agg #[.int .i64 5, .int .i64 5, .int .i64 0, .int .i64 8, .bool false]
abbrev tXv (u : Value) : Value := .agg #[.int .i64 0, .int .i64 0, .bool false, .bool false, .int .i64 0, u]
theorem ex_h9a (W : World) : Calls Try.prog 9 #[.string ⟨#[102, 111, 117, 114]⟩] W (Back (.tuple #[cFv, .int .i64 0]) W) := by
  have h := Named_any ⟨#[102, 111, 117, 114]⟩ (by decide) W
  have e : nmV (ByteArray.data ⟨#[102, 111, 117, 114]⟩).toList = _ := ex_four
  rwa [e] at h
theorem ex_h9b (W : World) : Calls Try.prog 9 #[.string ⟨#[119, 111, 114, 108, 100]⟩] W (Back (.tuple #[cWv, .int .i64 0]) W) := by
  have h := Named_any ⟨#[119, 111, 114, 108, 100]⟩ (by decide) W
  have e : nmV (ByteArray.data ⟨#[119, 111, 114, 108, 100]⟩).toList = _ := ex_world
  rwa [e] at h
/-- A ruling in a variable. -/
def JdV (W : World) (base b : Nat) (r ch : Int) (v : Value) (P : List Pr) : Prop := R3 W b r ch v ∧ RulAt W base v P ∧ base ≤ b
theorem JdV.up {W W' : World} {base b : Nat} {r ch : Int} {v : Value} {P : List Pr} (h : JdV W base b r ch v P) (hb : Below W.heap.size W W') : JdV W' base b r ch v P := ⟨h.1.up hb, h.2.1.up hb, h.2.2⟩
theorem JdV.kept {W W' : World} {base b k : Nat} {r ch : Int} {v : Value} {P : List Pr} (h : JdV W base b r ch v P) (hg : W.grownBy W' (some k)) (hk : k < base) : JdV W' base b r ch v P := ⟨h.1.kept hg (by have := h.2.2; simp; omega), h.2.1.kept hg hk, h.2.2⟩
theorem Cd5.kept {w w' : World} {b : Nat} {c : Cd} {row : Option Nat} (h : Cd5 w b c) (hg : w.grownBy w' row) (hne : some b ≠ row) : Cd5 w' b c := by
  obtain ⟨h0, h1, h2, h3, h4⟩ := h
  exact ⟨hg.cell h0 hne, hg.cell h1 hne, hg.cell h2 hne, hg.cell h3 hne, hg.cell h4 hne⟩
theorem JdV.new {W : World} {base : Nat} {r ch : Int} {v : Value} {P : List Pr} (h : RulAt W base v P) (hb : base ≤ W.heap.size) : JdV (W.alloc (.cells #[.int .i64 r, .int .i64 ch, v] 40)) base W.heap.size r ch v P :=
  ⟨R3.new W r ch v, h.up ((Below.refl _ _).alloc (Nat.le_refl _) _), hb⟩
theorem ex_h11 (v : Value) (W : World) (h : RowS W v [sB]) : Calls Try.prog 11 #[cFv, .int .i64 1, .int .i64 0, v] W fun e w' => (∃ A1 c1 A2 c2, e = .returned (.tuple #[.slice A1 1 c1, .slice A2 0 c2, .int .i64 0])) ∧ Below W.heap.size W w' := by
  refine (Protected_any cdF 1 0 [sB] v W h).mono ?_
  rintro e w' ⟨⟨A1, n1, c1, A2, n2, c2, rfl, h1, h2⟩, hb⟩
  rw [ex_prK] at h1
  rw [ex_prF] at h2
  obtain ⟨A1', k1, e1, -⟩ := h1
  obtain ⟨A2', k2, e2, -⟩ := h2
  rw [e1, e2, ex_prE]
  exact ⟨⟨_, _, _, _, rfl⟩, hb⟩
theorem ex_h17a (v u : Value) (W : World) (hv : RowS W v [sB]) (hu : RowS W u [sA]) : Calls Try.prog 17 #[cFv, .int .i64 1, v, tXv u] W fun e w' => (∃ A c, e = .returned (.tuple #[.agg #[.int .i64 7, .int .i64 (-1), .slice A 1 c], .int .i64 0]) ∧ RulAt w' W.heap.size (.slice A 1 c) [([sB], false)]) ∧ Below W.heap.size W w' := by
  refine (Judge_any cdF 1 thX [sB] [sA] v u W hv hu).mono ?_
  rintro e w' ⟨⟨v', rfl, h⟩, hb⟩
  rw [ex_r1.2] at h
  rw [ex_r1.1, ex_c1, ex_e1]
  obtain ⟨A, c, rfl⟩ := h.form
  exact ⟨⟨A, c, rfl, h⟩, hb⟩
theorem ex_h17b (v u : Value) (W : World) (hv : RowS W v [sB]) (hu : RowS W u [sA]) : Calls Try.prog 17 #[cFv, .int .i64 4, v, tXv u] W fun e w' => (∃ A c, e = .returned (.tuple #[.agg #[.int .i64 0, .int .i64 (-1), .slice A 1 c], .int .i64 0])) ∧ Below W.heap.size W w' := by
  refine (Judge_any cdF 4 thX [sB] [sA] v u W hv hu).mono ?_
  rintro e w' ⟨⟨v', rfl, h⟩, hb⟩
  rw [ex_r2.1, ex_r2.2, ex_e2]
  obtain ⟨A, c, rfl⟩ := h.form
  rw [ex_p2]
  exact ⟨⟨A, c, rfl⟩, hb⟩
theorem ex_h17c (v u : Value) (W : World) (hv : RowS W v [sB]) (hu : RowS W u [sA, sC]) : Calls Try.prog 17 #[cWv, .int .i64 1, v, tXv u] W fun e w' => (∃ A c, e = .returned (.tuple #[.agg #[.int .i64 9, .int .i64 1, .slice A 2 c], .int .i64 0])) ∧ Below W.heap.size W w' := by
  refine (Judge_any cdW 1 thX [sB] [sA, sC] v u W hv hu).mono ?_
  rintro e w' ⟨⟨v', rfl, h⟩, hb⟩
  rw [ex_r3.1, ex_r3.2.1, ex_e3]
  obtain ⟨A, c, rfl⟩ := h.form
  rw [ex_r3.2.2]
  exact ⟨⟨A, c, rfl⟩, hb⟩
theorem ownS_up {base e sz n : Nat} {v : Value} {xs : List Value} {W w2 : World} (h : W.ownsRow base e sz v n xs) (hb : Below W.heap.size W w2) : w2.ownsRow base e sz v n xs := by
  obtain ⟨q1, q2⟩ := h
  refine ⟨q1, q2.imp_right ?_⟩
  rintro ⟨g, cap, cur, q3, q4, q5, q6⟩
  exact ⟨g, cap, cur, q3, q4, boxed_cells_up q5 hb, q6⟩
/-- What awake has made. -/
def AwS (w W : World) (pF pW pB pA pX : Nat) : Prop :=
  Below w.heap.size w W ∧ Cd5 W pF cdF ∧ Cd5 W pW cdW ∧ OwnS w.heap.size W (.slice (some ⟨pB, 0, none⟩) 1 1) [sB] ∧ OwnS w.heap.size W (.slice (some ⟨pA, 0, none⟩) 1 1) [sA] ∧ Th6 W pX thX (.slice (some ⟨pA, 0, none⟩) 1 1) ∧ W.frozen? ⟨pX, 5, none⟩ = false ∧ (pW < pA ∧ pB < pA ∧ pX = pA + 1)
theorem AwS.up {w W W' : World} {pF pW pB pA pX : Nat} (h : AwS w W pF pW pB pA pX) (hb : Below W.heap.size W W') : AwS w W' pF pW pB pA pX := by
  obtain ⟨h1, h2, h3, h4, h5, h6, h7, h8⟩ := h
  refine ⟨h1.trans (hb.mono h1.size), h2.up hb, h3.up hb, ownS_up h4 hb, ownS_up h5 hb, h6.up hb, ?_, h8⟩
  rw [frozen_heap (hb.block pX (lt_cell h6.1))]; exact h7
theorem AwS.below {w W : World} {pF pW pB pA pX : Nat} (h : AwS w W pF pW pB pA pX) : Below w.heap.size w W := h.1
theorem AwS.rowB {w W : World} {pF pW pB pA pX : Nat} (h : AwS w W pF pW pB pA pX) : RowS W (.slice (some ⟨pB, 0, none⟩) 1 1) [sB] := RowS.of_own h.2.2.2.1 (by simp)
theorem AwS.rowA {w W : World} {pF pW pB pA pX : Nat} (h : AwS w W pF pW pB pA pX) : RowS W (.slice (some ⟨pA, 0, none⟩) 1 1) [sA] := RowS.of_own h.2.2.2.2.1 (by simp)
/-- Behind the append. -/
def AwT (w W : World) (pW pB pX : Nat) (u : Value) : Prop :=
  Below w.heap.size w W ∧ Cd5 W pW cdW ∧ RowS W (.slice (some ⟨pB, 0, none⟩) 1 1) [sB] ∧ Th6 W pX thX u ∧ RowS W u [sA, sC]
theorem AwT.up {w W W' : World} {pW pB pX : Nat} {u : Value} (h : AwT w W pW pB pX u) (hb : Below W.heap.size W W') : AwT w W' pW pB pX u := by
  obtain ⟨h1, h3, h4, h6, h7⟩ := h
  exact ⟨h1.trans (hb.mono h1.size), h3.up hb, h4.up hb, h6.up hb, h7.up hb⟩
theorem AwT.rowB {w W : World} {pW pB pX : Nat} {u : Value} (h : AwT w W pW pB pX u) : RowS W (.slice (some ⟨pB, 0, none⟩) 1 1) [sB] := h.2.2.1
theorem AwT.rowA {w W : World} {pW pB pX : Nat} {u : Value} (h : AwT w W pW pB pX u) : RowS W u [sA, sC] := h.2.2.2.2
theorem AwT.below {w W : World} {pW pB pX : Nat} {u : Value} (h : AwT w W pW pB pX u) : Below w.heap.size w W := h.1
/-- From the one to the other: the append (into world w9), and the store of the new slice. -/
theorem AwS.append {w W w9 : World} {pF pW pB pA pX g c : Nat} (h : AwS w W pF pW pB pA pX) (hg : W.grownBy w9 (some pA)) (hown : OwnS w.heap.size w9 (.slice (some ⟨g, 0, none⟩) 2 c) [sA, sC]) (hat : g = pA ∨ g = W.heap.size) (hpX : pX < W.heap.size) (hwA : w.heap.size ≤ pA) :
    AwT w (w9.setCell ⟨pX, 5, none⟩ (.slice (some ⟨g, 0, none⟩) 2 c)) pW pB pX (.slice (some ⟨g, 0, none⟩) 2 c) := by
  obtain ⟨h1, h2, h3, h4, h5, ⟨a0, a1, a2, a3, a4, a5⟩, h7, n1, n2, n3⟩ := h
  have hs := grown_set w9 ⟨pX, 5, none⟩ (.slice (some ⟨g, 0, none⟩) 2 c)
  have hx : some pX ≠ some pA := by simp; omega
  have hsz : pX < w9.heap.size := Nat.lt_of_lt_of_le hpX hg.size
  have hgx : g ≠ pX := by omega
  have k5 := hg.cell a5 hx
  refine ⟨?_, (h3.kept hg (by simp; omega)).kept hs (by simp; omega), ((RowS.of_own h4 (by simp)).kept hg (by simp; omega)).kept hs (by simp; omega), ⟨?_, ?_, ?_, ?_, ?_, ?_⟩, (RowS.of_own hown (by simp)).kept hs (by simpa using hgx)⟩
  · exact (h1.grown hg h1.size (fun j e => by injection e with e; omega)).setCell (p := ⟨pX, 5, none⟩) (by simp; omega) _
  · have := hg.cell a0 hx; simp_all [go_sem]
  · have := hg.cell a1 hx; simp_all [go_sem]
  · have := hg.cell a2 hx; simp_all [go_sem]
  · have := hg.cell a3 hx; simp_all [go_sem]
  · have := hg.cell a4 hx; simp_all [go_sem]
  · simp_all [go_sem]
end Go.Proofs.Ytomcpgdpjpjioaa
