/- Contract: stone. -/
import Derived.Test.YtmhlialdbggmdaaGreatDoorI
import Derived.Deep.MidRow
namespace Go.Proofs.YtmhlialdbggmdaaGreatDoor
open Go.RowKit Go.Proofs Go.Shelf

/-- The parts of a text at its blanks. -/
def partsB (s : ByteArray) : List ByteArray := Lib.splitB ⟨#[32]⟩ 0 (Lib.countB s ⟨#[32]⟩) s

theorem split_any (s : ByteArray) (hs : s.size ≤ 2000) (w : World) (m : Int) (hm : w.cell? ⟨3, 0, none⟩ = some (.int .i64 m)) (c : Nat) (hc : Lib.countB s ⟨#[32]⟩ = c) (W : World) (hb : Below w.heap.size w W) :
    Calls Tryz.prog 77 #[.string s, .string ⟨#[32]⟩] W fun e w' => e = .returned (.slice (some ⟨W.heap.size, 0, none⟩) (c + 1) (c + 1)) ∧ w' = W.alloc (.cells ((partsB s).map Value.string).toArray 9) := by
  have := Tryz.strings_Split s ⟨#[32]⟩ m W (by omega) (upc hm hb) (by decide)
  rw [hc] at this
  unfold partsB
  rw [hc]
  exact this

theorem results_ct {fn : Func} {t u : Tmp} {b : Nat} {s : St} (hf : fn.results = #[.cell t 53, .tmp u]) (tmps : Array Value) (w : World) (ht : tmps.getD t undef = .pointer (some ⟨b, 0, none⟩)) (h4 : At4 w b 0 s) :
    (results fn tmps).run Tryz.prog w = .ok (.tuple #[Stv s, tmps.getD u undef]) w := by
  have hl : (loadCells ⟨b, 0, none⟩ 4).run Tryz.prog w = .ok (Stv s).cells w :=
    run_loadCells_list (P := Tryz.prog) w ⟨b, 0, none⟩ [.int .i64 s.t, .int .i64 s.n, .int .i64 s.x, .int .i64 s.y] (fun j v hv => by
      obtain ⟨c0, c1, c2, c3⟩ := h4
      rw [Addr.add_mid]
      rcases j with _ | _ | _ | _ | j <;> simp at hv <;> subst hv <;> assumption)
  have hz : (loadVar 53 ⟨b, 0, none⟩).run Tryz.prog w = .ok (Stv s) w := by
    have h1 : (isAgg 53).run Tryz.prog w = .ok true w := by kernel_rfl
    have h2 : (sizeOf 53).run Tryz.prog w = .ok 4 w := by kernel_rfl
    simp only [loadVar, Sem.run_bind, h1, h2, hl, Result.andThen_ok, Sem.run_pure, if_true]; rfl
  have hz' : (asAddr (tmps.getD t undef)).run Tryz.prog w = .ok ⟨b, 0, none⟩ w := by rw [ht]; rfl
  simp only [Array.getD_eq_getD_getElem?] at hz' ⊢
  simp [results, hf, hz', hz]

theorem at4_zero (w : World) : At4 (w.alloc (Sto ⟨0, 0, 0, 0⟩)) w.heap.size 0 ⟨0, 0, 0, 0⟩ := by
  have h := World.alloc_heap_new w (Sto ⟨0, 0, 0, 0⟩)
  refine ⟨?_, ?_, ?_, ?_⟩ <;> (unfold World.cell?; rw [h]; rfl)

abbrev noSt : Value := .agg #[.int .i64 0, .int .i64 0, .agg #[.int .i64 0, .int .i64 0]]
set_option maxRecDepth 100000 in
set_option maxHeartbeats 4000000 in
theorem stone_no (s : ByteArray) (hs : s.size ≤ 2000) (w : World) (m : Int) (hm : w.cell? ⟨3, 0, none⟩ = some (.int .i64 m)) (c : Nat) (hc : Lib.countB s ⟨#[32]⟩ = c) (hne : c ≠ 2) :
    Calls Tryz.prog 51 #[.string s] w fun e w' => (∃ t, e = .returned (.tuple #[Stv t, .bool false])) ∧ Below w.heap.size w w' := by
  have H1 := Lib.hid (split_any s hs w m hm c hc)
  have hb0 := ((Below.refl w.heap.size w).alloc (Nat.le_refl _))
  clear hm hc
  go_enter Tryz.func51, Tryz.ntmps51
  go_wp2_with (first
    | (go_at_call 77; refine (H1.out _ (hb0 _)).mono ?_; rintro e w1 ⟨rfl, rfl⟩))
  refine bodyPost_ret (results_ct (s := ⟨0, 0, 0, 0⟩) rfl _ _ rfl (At4.alloc (at4_zero w) _)) rfl ?_
  exact ⟨⟨_, rfl⟩, ((Below.refl w.heap.size w).alloc (Nat.le_refl _) _).alloc (by simp) _⟩

theorem split_3 (s : ByteArray) (hs : s.size ≤ 2000) (w : World) (m : Int) (hm : w.cell? ⟨3, 0, none⟩ = some (.int .i64 m)) (a b d : ByteArray) (hp : partsB s = [a, b, d]) (W : World) (hb : Below w.heap.size w W) :
    Calls Tryz.prog 77 #[.string s, .string ⟨#[32]⟩] W fun e w' => e = .returned (.slice (some ⟨W.heap.size, 0, none⟩) 3 3) ∧ w' = W.alloc (.cells #[.string a, .string b, .string d] 9) := by
  have hc : Lib.countB s ⟨#[32]⟩ = 2 := by
    have := Lib.splitB_all ⟨#[32]⟩ (by decide) 0 _ s rfl
    unfold partsB at hp
    rw [hp] at this; simpa using this.symm
  have := split_any s hs w m hm 2 hc W hb
  rw [hp] at this
  exact this

set_option maxRecDepth 100000 in
set_option maxHeartbeats 4000000 in
theorem stone_short (s : ByteArray) (hs : s.size ≤ 2000) (w : World) (m : Int) (hm : w.cell? ⟨3, 0, none⟩ = some (.int .i64 m)) (a b d : ByteArray) (hp : partsB s = [a, b, d]) (ha : a.size ≠ 2) :
    Calls Tryz.prog 51 #[.string s] w fun e w' => (∃ t, e = .returned (.tuple #[Stv t, .bool false])) ∧ Below w.heap.size w w' := by
  have H1 := Lib.hid (split_3 s hs w m hm a b d hp)
  have hb0 := ((Below.refl w.heap.size w).alloc (Nat.le_refl _))
  clear hm hp
  go_enter Tryz.func51, Tryz.ntmps51
  go_wp2_with (first
    | (go_at_call 77; refine (H1.out _ (hb0 _)).mono ?_; rintro e w1 ⟨rfl, rfl⟩))
  refine bodyPost_ret (results_ct (s := ⟨0, 0, 0, 0⟩) rfl _ _ rfl (At4.alloc (at4_zero w) _)) rfl ?_
  exact ⟨⟨_, rfl⟩, ((Below.refl w.heap.size w).alloc (Nat.le_refl _) _).alloc (by simp) _⟩

theorem split_4 (s : ByteArray) (hs : s.size ≤ 2000) (w : World) (m : Int) (hm : w.cell? ⟨3, 0, none⟩ = some (.int .i64 m)) (a b d : ByteArray) (hp : partsB s = [a, b, d]) (W : World) (hb : Below w.heap.size w W) (N : Nat) (hN : W.heap.size = N) :
    Calls Tryz.prog 77 #[.string s, .string ⟨#[32]⟩] W fun e w' => e = .returned (.slice (some ⟨N, 0, none⟩) 3 3) ∧ Below W.heap.size W w' ∧
      w'.cell? ⟨N, 0, none⟩ = some (.string a) ∧ w'.cell? ⟨N, 1, none⟩ = some (.string b) ∧ w'.cell? ⟨N, 2, none⟩ = some (.string d) := by
  subst hN
  refine (split_3 s hs w m hm a b d hp W hb).mono ?_
  rintro e w' ⟨rfl, rfl⟩
  exact ⟨rfl, (Below.refl _ _).alloc (Nat.le_refl _) _, by simp [go_sem], by simp [go_sem], by simp [go_sem]⟩

end Go.Proofs.YtmhlialdbggmdaaGreatDoor
