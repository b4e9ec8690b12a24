import Derived.Test.YtlfbbofcnonhdaaBj
import Derived.Test.YtlfbbofcnonhdaaDr
import Derived.Test.YtlfbbofcnonhdaaSa
/- Contracts: Draws of the program, as the engine has it. -/
namespace Go.Proofs.Ytlfbbofcnonhdaa
open Go Go.RowKit Go.Proofs

/-- A function's end: a drawn slice, and a number. -/
def RetDE {α : Type} (ty k : Nat) (enc : α → List Value) (L : List (List α)) (E : Int) (w : World) (e : Ending) (w' : World) : Prop :=
 ∃ A c, ∃ D : List (Dv α), D.map Dv.l = L ∧ e = .returned (.tuple #[.slice A D.length c, .int .i64 E]) ∧ Wd (bs w) [ownB ty 1 A D.length c (D.flatMap eD), slsB k enc D] w' ∧ DvNew w (fun _ => False) D
theorem retDE_of {k ty : Nat} {α : Type} {enc : α → List Value} {L : List (List α)} {E : Int} {w w' : World} {e : Ending} (h : (∃ u, e = .returned (.tuple #[u, .int .i64 E]) ∧ OwnD w.heap.size ty k enc w' u L) ∧ Below w.heap.size w w') : RetDE ty k enc L E w e w' := by
 obtain ⟨⟨u, rfl, hu⟩, hb⟩ := h
 obtain ⟨A, c, D, h1, h2, h3, h4⟩ := retD_of ⟨⟨u, rfl, hu⟩, hb⟩
 injection h2 with h2
 subst h2
 exact ⟨A, c, D, h1, rfl, h3, h4⟩
theorem draws22 (T L : Nat) (hT : 2 ≤ T ∧ T ≤ 16) (hL : 1 ≤ L ∧ L ≤ 8) (w : World) : Calls Try.prog 22 #[.int .i64 (T : Nat), .int .i64 (L : Nat)] w (RetDE 41 2 eP ((drP T L).map (·.map iP)) 0 w) :=
 (Draws_yes T L hT hL w).mono fun _ _ h => retDE_of h
end Go.Proofs.Ytlfbbofcnonhdaa

/- Closed facts of awake. -/
namespace Go.Proofs.Ytlfbbofcnonhdaa
open Go Go.RowKit Go.Proofs
theorem aw_draws : (drP 4 2).map (·.map iP) = [[(0, 3), (1, 2)], [(1, 3), (0, 2)], [(2, 3), (0, 1)]] := by decide +kernel
theorem aw_chk1 : chkE 3 (ringL 10 20 30) = 0 := by decide +kernel
theorem aw_chk2 : chkE 3 (ringL 10 10 30) = 0 := by decide +kernel
theorem aw_tbl : (tblP 3 (ringL 10 20 30)).map (fun r => (r.team, r.place)) = [(0, 1), (1, 2), (2, 3)] := by decide +kernel
theorem aw_prz : przP 3 (ringL 10 10 30) [5, 2, 1] = [(7, 2), (7, 2), (1, 1)] := by decide +kernel
theorem aw_ko : (koR 4 [1, 1]).1 = 0 ∧ (koR 4 [1, 1]).2.2.1.length = 5 ∧ (koR 4 [1, 1]).2.2.2.length = 4 := by decide +kernel
theorem aw_ko3 : (koR 4 [1, 1]).2.2.1[3]? = some ((2, 1), (2, 2)) := by decide +kernel
theorem aw_page : cbB 4 pageG pageR = true := by decide +kernel
end Go.Proofs.Ytlfbbofcnonhdaa

/- The walk by live slots: calls that give a new slice and a number. -/
namespace Go.Proofs.Ytlfbbofcnonhdaa
open Go Go.RowKit Go.Proofs
section
variable {P : Program} {n : Nat} {B : Bs} {l : Sl} {H : List It} {o : Oper} {α : Type} {k : Nat} {enc : α → List Value}
/-- A call that gives slices, and a number. -/
theorem ow_callDE {ty : Nat} {E : Int} {L : List (List α)} {d : Nat} {f : FuncId} {args : Array Value} (he : EC P n l o f args) (hd : o.dst = some d) (hn : Nat.ble n d = false) (hC : ∀ w, Wd B H w → Calls P f args w (RetDE ty k enc L E w)) :
  OpW P n B none l H o (T := Option Addr × Nat × List (Dv α)) (fun t => t.2.2.map Dv.l = L) (fun t => (d, .tuple #[.slice t.1 t.2.2.length t.2.1, .int .i64 E]) :: l) (fun t => ownB ty 1 t.1 t.2.2.length t.2.1 (t.2.2.flatMap eD) :: slsB k enc t.2.2 :: H) :=
 ow_call (m := none) he hd hn (V := fun t => .tuple #[.slice t.1 t.2.2.length t.2.1, .int .i64 E]) (fun w hw => (hC w hw).mono fun e w' ⟨A, c, D, h0, h1, h2, h3⟩ => ⟨(A, c, D), h0, h1, hw.retR h2 (by
  intro C hC hr C' hC' hr' b hb hb'
  rcases List.mem_cons.1 hC with rfl | hC
  ·cases hr
  ·rw [List.mem_singleton.1 hC] at hb
   obtain ⟨p, hp, hn, o, ho⟩ := hb
   rcases h3 p hp hn b o ho with h4 | h4
   ·have := ((hw.ok C' hC').2 b hb').2
    omega
   ·exact h4.elim), h2.bel⟩)
/-- A call that gives a slice, and a number. -/
theorem ow_callSE {ty : Nat} {E : Int} {L : List α} {d : Nat} {f : FuncId} {args : Array Value} (he : EC P n l o f args) (hd : o.dst = some d) (hn : Nat.ble n d = false) (hC : ∀ w, Wd B H w → Calls P f args w (RetSE ty k enc L E w)) :
  OpS P n B none l H o (fun A c => (d, .tuple #[.slice A L.length c, .int .i64 E]) :: l) (fun A c => ownB ty k A L.length c (L.flatMap enc) :: H) :=
 ow_call (m := none) he hd hn (V := fun t => .tuple #[.slice t.1 L.length t.2, .int .i64 E]) (fun w hw => (hC w hw).mono fun _ _ ⟨A, c, h1, h2⟩ => ⟨(A, c), trivial, h1, hw.ret h2 rfl, h2.bel⟩)
end
end Go.Proofs.Ytlfbbofcnonhdaa

/- A playdown of the caller's own. -/
namespace Go.Proofs.Ytlfbbofcnonhdaa
open Go Go.RowKit Go.Proofs
theorem pd_of {T : Int} {G : List Gm} {R : List (Int × Int)} {k : Nat} {m : Int → Option Int} {t : PdT} {B : Bs} {H : List It} {w : World} (hw : Wd B H w) (hk : Pk (PdG T G R k m t) H) (hl : G.length ≤ 1000 ∧ R.length ≤ 1000) :
  PdF T G R w t.bp t.bm t.c t.c2 t.A t.A2 ∧ PdA G R t.bp t.bm t.A t.A2 ∧ (resB t.bm k m).holds w := by
 have h := hw.pick hk
 unfold PdG at h
 have h1 := (h.ok _ (List.mem_cons_self ..)).1
 have h2 := (h.ok (ownB 90 4 t.A G.length t.c (G.flatMap eG)) (by simp)).1
 have h3 := (h.ok (ownB 89 2 t.A2 R.length t.c2 (R.flatMap eP)) (by simp)).1
 have h4 := (h.ok (resB t.bm k m) (by simp)).1
 obtain ⟨s1, s2⟩ := List.pairwise_cons.1 h.sep
 obtain ⟨s3, s4⟩ := List.pairwise_cons.1 s2
 obtain ⟨s5, s6⟩ := List.pairwise_cons.1 s4
 refine ⟨⟨cellB_get h1 rfl, cellB_get h1 rfl, cellB_get h1 rfl, cellB_get h1 rfl, Arr.of_own EG h2 (by omega), Arr.of_own EP h3 (by omega)⟩, ⟨fun e => ?_, fun _ b o e eb => ?_, fun _ b o e eb => ?_⟩, h4⟩
 ·rcases s1 (resB t.bm k m) (by simp) with h | h
  ·cases h.1
  ·exact h t.bm e.symm rfl
 ·rcases s3 (resB t.bm k m) (by simp) with h | h
  ·cases h.1
  ·exact h b (show (Value.slice t.A G.length t.c).ownBlock = some b by rw [e]; rfl) eb
 ·rcases s5 (resB t.bm k m) (by simp) with h | h
  ·cases h.1
  ·exact h b (show (Value.slice t.A2 R.length t.c2).ownBlock = some b by rw [e]; rfl) eb
end Go.Proofs.Ytlfbbofcnonhdaa
