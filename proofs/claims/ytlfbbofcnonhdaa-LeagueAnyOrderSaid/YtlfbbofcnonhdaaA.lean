import Derived.Test.YtlfbbofcnonhdaaProg
import Derived.WalkKit
import Derived.WalkLawsBesides
import Derived.Lib.Hide
import Derived.Deep.QuietTactic
import Derived.BigQuiet
import Derived.WalkSpells
import Derived.Lib.VarintMem
import Derived.Maps.AppendAt
import Derived.Deep.OwnRows
import Derived.RangeFuncNested
import Derived.Deep.MidRow
import Derived.Sort.CutIn
import Derived.Deep.Cut
import Derived.Shelf.Abstract
import Derived.Shelf.RegionOpen
import Derived.RangeFuncBound
import Derived.RangeFuncCalls
import Derived.RangeFuncLeaves
import Derived.RangeFuncBox
import Derived.OwnWalkIn
import Derived.TacticsInMore
import Derived.LoopNIn
import Derived.LoopIn
import Derived.RangeFuncKeeps
/- Base: cells of old blocks; slices of elements of k cells; contracts of the smallest functions. -/
namespace Go.Proofs.Ytlfbbofcnonhdaa
open Go.RowKit Go.Proofs Go.Shelf
attribute [local go_sem] Oper.semAt_some

theorem lt_cell {w : World} {b o : Nat} {v : Value} (h : w.cell? ⟨b, o, none⟩ = some v) : b < w.heap.size := by
 rcases Nat.lt_or_ge b w.heap.size with h' | h'
 ·exact h'
 ·exfalso
  simp [World.cell?, Array.getElem?_eq_none h'] at h
/-- An old cell, behind a call, and behind a new variable. -/
theorem upc {w w' : World} {b i : Nat} {v : Value} (h : w.cell? ⟨b, i, none⟩ = some v) (hb : Below w.heap.size w w') : w'.cell? ⟨b, i, none⟩ = some v :=
 (hb.cell (p := ⟨b, i, none⟩) (lt_cell h)).trans h
theorem upa {w : World} {b i : Nat} {v : Value} (h : w.cell? ⟨b, i, none⟩ = some v) (o : Obj) : (w.alloc o).cell? ⟨b, i, none⟩ = some v := by
 rw [World.cell?_alloc_past _ _ _ (lt_cell h)]; exact h
theorem below_drewN {B : Nat} {a w : World} (h : Below B a w) (n : Nat) : Below B a (w.drewN n) := ⟨h.os, h.tape, h.output, h.size, h.block⟩
theorem cell_heap {w w' : World} {b o : Nat} (h : w'.heap[b]? = w.heap[b]?) : w'.cell? ⟨b, o, none⟩ = w.cell? ⟨b, o, none⟩ := by simp [World.cell?, h]
theorem frozen_heap {w w' : World} {b o : Nat} (h : w'.heap[b]? = w.heap[b]?) : w'.frozen? ⟨b, o, none⟩ = w.frozen? ⟨b, o, none⟩ := by simp [World.frozen?, h]
theorem grown_set (w : World) (a : Addr) (u : Value) : w.grownBy (w.setCell a u) (some a.block) :=
 ⟨rfl, rfl, rfl, by simp, fun k _ hk => Below.heap_setCell _ _ _ _ (fun e => hk (by rw [e]))⟩
theorem grown_of {w w' : World} (h : Below w.heap.size w w') (row : Option Nat) : w.grownBy w' row := ⟨h.os, h.tape, h.output, h.size, fun i hi _ => h.block i hi⟩
theorem grown_setCells (b : Nat) : ∀ (vs : List Value) (o : Nat) (w : World), w.grownBy (w.setCells b o vs) (some b)
 | [], _, _ => ⟨rfl, rfl, rfl, Nat.le_refl _, fun _ _ _ => rfl⟩
 | v :: r, o, w => (grown_set w ⟨b, o, none⟩ v).trans (grown_setCells b r (o + 1) _)
/-- A call that leaves the world as it lay. -/
abbrev Back (v : Value) (w : World) (e : Ending) (w' : World) : Prop := e = .returned v ∧ Below w.heap.size w w'

/-! Slices of elements of k cells. -/
section
variable {α : Type} {k : Nat} {enc : α → List Value}
def HoldL (k : Nat) (enc : α → List Value) (w : World) (b o : Nat) (l : List α) : Prop := ∀ j (h : j < l.length) i, i < k → w.cell? ⟨b, o + j * k + i, none⟩ = (enc (l[j]'h))[i]?
def Arr (k : Nat) (enc : α → List Value) (w : World) (v : Value) (l : List α) : Prop :=
 ∃ A cap, v = .slice A l.length cap ∧ l.length ≤ cap ∧ (l.length ≤ 281474976710656 ∧ cap ≤ maxLen) ∧ (l ≠ [] → ∃ b o, A = some ⟨b, o, none⟩ ∧ HoldL k enc w b o l)
/-- The elements have k cells. -/
structure Enc (k : Nat) (enc : α → List Value) : Prop where
 len : ∀ x, (enc x).length = k
 one : ∀ x, ∀ v ∈ enc x, v.oneCell' = true
theorem HoldL.up (E : Enc k enc) {w w' : World} {b o : Nat} {l : List α} (h : HoldL k enc w b o l) (hb : Below w.heap.size w w') : HoldL k enc w' b o l := fun j hj i hi => by
 have h1 := h j hj i hi
 have : i < (enc (l[j]'hj)).length := by rw [E.len]; exact hi
 rw [List.getElem?_eq_getElem this] at h1 ⊢
 exact upc h1 hb
theorem HoldL.kept (E : Enc k enc) {w w' : World} {b o : Nat} {l : List α} {row : Option Nat} (h : HoldL k enc w b o l) (hg : w.grownBy w' row) (hne : some b ≠ row) : HoldL k enc w' b o l := fun j hj i hi => by
 have h1 := h j hj i hi
 have : i < (enc (l[j]'hj)).length := by rw [E.len]; exact hi
 rw [List.getElem?_eq_getElem this] at h1 ⊢
 exact hg.cell h1 hne
theorem Arr.up (E : Enc k enc) {w w' : World} {v : Value} {l : List α} (h : Arr k enc w v l) (hb : Below w.heap.size w w') : Arr k enc w' v l := by
 obtain ⟨A, cap, h1, h2, h3, h4⟩ := h
 exact ⟨A, cap, h1, h2, h3, fun hn => by obtain ⟨b, o, h5, h6⟩ := h4 hn; exact ⟨b, o, h5, h6.up E hb⟩⟩
theorem Arr.form {w : World} {v : Value} {l : List α} (h : Arr k enc w v l) : ∃ A cap, v = .slice A l.length cap := by
 obtain ⟨A, cap, h, -⟩ := h; exact ⟨A, cap, h⟩
theorem Arr.nil (w : World) : Arr k enc w (.slice none 0 0) [] := ⟨none, 0, rfl, Nat.le_refl _, ⟨Nat.zero_le _, Nat.zero_le _⟩, fun h => absurd rfl h⟩
theorem Arr.keptA (E : Enc k enc) {W W' : World} {A : Option Addr} {n c : Nat} {row : Option Nat} {l : List α} (h : Arr k enc W (.slice A n c) l) (hg : W.grownBy W' row) (hk : ∀ g o, A = some ⟨g, o, none⟩ → some g ≠ row) : Arr k enc W' (.slice A n c) l := by
 obtain ⟨A', cap, h1, h2, h3, h4⟩ := h
 injection h1 with e1 e2 e3
 subst e1 e2 e3
 refine ⟨_, _, rfl, h2, h3, fun hn => ?_⟩
 obtain ⟨b, o, h5, h6⟩ := h4 hn
 exact ⟨b, o, h5, h6.kept E hg (hk b o h5)⟩
theorem flat_len (E : Enc k enc) (l : List α) : (l.flatMap enc).length = l.length * k := by
 induction l with
 | nil => simp
 | cons a l ih => rw [List.flatMap_cons, List.length_append, ih, E.len, List.length_cons, Nat.succ_mul]; omega
theorem flat_get (E : Enc k enc) : ∀ {L : List α} {j : Nat} (h : j < L.length) (i : Nat) (_ : i < k), (L.flatMap enc)[j * k + i]? = (enc (L[j]'h))[i]?
 | [], _, h, _, _ => by simp at h
 | a :: L, 0, _, i, hi => by
  rw [List.flatMap_cons, List.getElem?_append_left (by rw [E.len]; omega)]; simp
 | a :: L, j + 1, h, i, hi => by
  have hk : (j + 1) * k = j * k + k := Nat.succ_mul j k
  rw [List.flatMap_cons, List.getElem?_append_right (by rw [E.len]; omega)]
  have e : (j + 1) * k + i - (enc a).length = j * k + i := by rw [E.len]; omega
  rw [e, flat_get E (by simpa using h) i hi]; rfl
/-- A slice of the call's own. -/
abbrev Own (base ty k : Nat) (enc : α → List Value) (W : World) (v : Value) (L : List α) : Prop := W.ownsRow base ty k v L.length (L.flatMap enc)
theorem boxed_cells_up {W W' : World} {g : Nat} {o : Obj} (h : W.heap[g]? = some o) (hb : Below W.heap.size W W') : W'.heap[g]? = some o := (hb.block g (Array.getElem?_eq_some_iff.1 h).1).trans h
theorem row_up {base ty sz n : Nat} {v : Value} {xs : List Value} {W w2 : World} (h : W.ownsRow base ty sz v n xs) (hb : Below W.heap.size W w2) : w2.ownsRow base ty sz v n xs := by
 obtain ⟨q1, q2⟩ := h
 refine ⟨q1, q2.imp_right ?_⟩
 rintro ⟨g, cap, cur, q3, q4, q5, q6⟩
 exact ⟨g, cap, cur, q3, q4, boxed_cells_up q5 hb, q6⟩
theorem row_form {base ty sz n : Nat} {u : Value} {xs : List Value} {W : World} (h : W.ownsRow base ty sz u n xs) : ∃ A c, u = .slice A n c ∧ (∀ g o, A = some ⟨g, o, none⟩ → o = 0 ∧ base ≤ g ∧ g < W.heap.size) ∧ ∀ g, u.ownBlock = some g ↔ A = some ⟨g, 0, none⟩ := by
 rcases h.2 with ⟨rfl, h0⟩ | ⟨g, cap, cur, rfl, hb, hg, -⟩
 ·exact ⟨none, 0, by rw [h0], (fun _ _ h => by cases h), fun g => by simp [Value.ownBlock]⟩
 ·refine ⟨some ⟨g, 0, none⟩, cap, rfl, (fun g' o e => ?_), fun g' => by simp [Value.ownBlock]⟩
  injection e with e; injection e with e1 e2; subst e1 e2; exact ⟨rfl, hb, (Array.getElem?_eq_some_iff.1 hg).1⟩
theorem row_ge {base : Nat} {e : TypeId} {size n : Nat} {v : Value} {xs : List Value} {W : World} (h : W.ownsRow base e size v n xs) {j : Nat} (hj : v.ownBlock = some j) : base ≤ j ∧ ∃ o, W.heap[j]? = some o ∧ o.isCells = true := by
 rcases h.2 with ⟨rfl, _⟩ | ⟨g, cap, cur, rfl, hb, hg, _⟩
 ·simp [Value.ownBlock] at hj
 ·obtain rfl : g = j := by simpa [Value.ownBlock] using hj
  exact ⟨hb, _, hg, rfl⟩
theorem Arr.of_own (E : Enc k enc) {W : World} {base ty : Nat} {v : Value} {L : List α} (h : Own base ty k enc W v L) (hl : L.length ≤ 281474976710656) : Arr k enc W v L := by
 have hc := h
 rcases h.2 with ⟨rfl, h0⟩ | ⟨g, cap, cur, rfl, h2, h3, h4, h5, -⟩
 ·exact ⟨none, 0, by rw [h0], by omega, ⟨by omega, by unfold maxLen; omega⟩, fun hl => absurd (List.length_eq_zero_iff.1 h0) hl⟩
 ·refine ⟨_, _, rfl, h4, ⟨hl, h5⟩, fun _ => ⟨g, 0, rfl, fun j hj i hi => ?_⟩⟩
  rw [Nat.zero_add, ← flat_get E hj i hi]
  have h1 : (j + 1) * k ≤ L.length * k := Nat.mul_le_mul_right k (by omega)
  rw [Nat.succ_mul] at h1
  exact hc.cellAt _ (by omega)
theorem Arr.news (E : Enc k enc) (hk : 0 < k) {W : World} {b o cap n : Nat} {l : List α} (h : Arr k enc W (.slice (some ⟨b, o, none⟩) n cap) l) : ∀ j u, (l.flatMap enc)[j]? = some u → W.cell? ((⟨b, o, none⟩ : Addr).add j) = some u := by
 intro j u hu
 have hlen := flat_len E l
 have hj := (List.getElem?_eq_some_iff.1 hu).1
 obtain ⟨A, cap', he, h1, h2, h3⟩ := h
 injection he with e1 _ e2
 subst e1
 obtain ⟨b', o', hA, hc⟩ := h3 (by intro e; subst e; simp at hj)
 injection hA with hA
 injection hA with hb ho _
 subst hb ho
 have hq : j / k < l.length := by rw [Nat.div_lt_iff_lt_mul hk]; omega
 have hm : j % k < k := Nat.mod_lt _ hk
 have hjj : j / k * k + j % k = j := Nat.div_add_mod' j k
 have hg := flat_get E hq (j % k) hm
 rw [hjj, hu] at hg
 have := hc (j / k) hq (j % k) hm
 rw [Addr.add_mid, ← hjj, ← Nat.add_assoc, this, ← hg]
theorem flat_one (E : Enc k enc) {l : List α} {u : Value} (h : u ∈ l.flatMap enc) : u.oneCell' = true := by
 obtain ⟨s, -, hs⟩ := List.mem_flatMap.1 h
 exact E.one s u hs
theorem news_one (W : World) (ty : TypeId) (x : α) : ∀ j u, (enc x)[j]? = some u → (W.alloc (.cells (enc x).toArray ty)).cell? ((⟨W.heap.size, 0, none⟩ : Addr).add j) = some u := by
 intro j u hu
 have h := World.alloc_heap_new W (.cells (enc x).toArray ty)
 rw [Addr.add_mid]
 unfold World.cell?
 rw [h]
 simp [hu]
end
/-- The encodings. -/
def eI (x : Int) : List Value := [.int .i64 x]
def eP (x : Int × Int) : List Value := [.int .i64 x.1, .int .i64 x.2]
theorem EI : Enc 1 eI := ⟨fun _ => rfl, fun x v h => by simp [eI] at h; subst h; rfl⟩
theorem EP : Enc 2 eP := ⟨fun _ => rfl, fun x v h => by simp [eP] at h; rcases h with rfl | rfl <;> rfl⟩
theorem HoldL.int {w : World} {b o : Nat} {l : List Int} (h : HoldL 1 eI w b o l) (j : Nat) (hj : j < l.length) : w.cell? ⟨b, o + j, none⟩ = some (.int .i64 (l[j]'hj)) := by
 have := h j hj 0 (by omega)
 rw [Nat.mul_one] at this
 exact this
theorem HoldL.pair {w : World} {b o : Nat} {l : List (Int × Int)} (h : HoldL 2 eP w b o l) (j : Nat) (hj : j < l.length) : w.cell? ⟨b, o + j * 2, none⟩ = some (.int .i64 (l[j]'hj).1) ∧ w.cell? ⟨b, o + j * 2 + 1, none⟩ = some (.int .i64 (l[j]'hj).2) :=
 ⟨h j hj 0 (by omega), h j hj 1 (by omega)⟩
theorem Try.info3 : (Try.prog.info? 3).map (fun i => (i.zero, i.size, i.bytes)) = some (some (.int .i64 0), 1, 8) := by kernel_rfl
theorem Try.info42 : (Try.prog.info? 42).map (fun i => (i.zero, i.size, i.bytes)) = some (some (.agg #[.int .i64 0, .int .i64 0]), 2, 16) := by kernel_rfl
abbrev Pv (a b : Int) : Value := .agg #[.int .i64 a, .int .i64 b]

theorem within47 (n a b : Int) (w : World) : Calls Try.prog 47 #[.int .i64 n, .int .i64 a, .int .i64 b] w fun e w' => e = .returned (.bool (decide (a ≤ n ∧ n ≤ b))) ∧ w = w' := by
 obtain ⟨q, hq⟩ : ∃ q, decide (a ≤ n ∧ n ≤ b) = q := ⟨_, rfl⟩
 rw [hq]
 by_cases h1 : a ≤ n
 ·by_cases h2 : n ≤ b
  ·obtain rfl : q = true := by rw [← hq]; exact decide_eq_true ⟨h1, h2⟩
   clear hq
   go_enter Try.func47, Try.ntmps47
   go_wp2_with fail
   go_ret
   exact ⟨rfl, rfl⟩
  ·obtain rfl : q = false := by rw [← hq]; exact decide_eq_false (by omega)
   clear hq
   go_enter Try.func47, Try.ntmps47
   go_wp2_with fail
   go_ret
   exact ⟨rfl, rfl⟩
 ·obtain rfl : q = false := by rw [← hq]; exact decide_eq_false (by omega)
  clear hq
  go_enter Try.func47, Try.ntmps47
  go_wp2_with fail
  go_ret
  exact ⟨rfl, rfl⟩
theorem In81 (n a b : Int) (w : World) : Calls Try.prog 81 #[.int .i64 n, .int .i64 a, .int .i64 b] w fun e w' => e = .returned (.bool (decide (a ≤ n ∧ n ≤ b))) ∧ w = w' := by
 obtain ⟨q, hq⟩ : ∃ q, decide (a ≤ n ∧ n ≤ b) = q := ⟨_, rfl⟩
 rw [hq]
 by_cases h1 : a ≤ n
 ·by_cases h2 : n ≤ b
  ·obtain rfl : q = true := by rw [← hq]; exact decide_eq_true ⟨h1, h2⟩
   clear hq
   go_enter Try.func81, Try.ntmps81
   go_wp2_with fail
   go_ret
   exact ⟨rfl, rfl⟩
  ·obtain rfl : q = false := by rw [← hq]; exact decide_eq_false (by omega)
   clear hq
   go_enter Try.func81, Try.ntmps81
   go_wp2_with fail
   go_ret
   exact ⟨rfl, rfl⟩
 ·obtain rfl : q = false := by rw [← hq]; exact decide_eq_false (by omega)
  clear hq
  go_enter Try.func81, Try.ntmps81
  go_wp2_with fail
  go_ret
  exact ⟨rfl, rfl⟩
theorem in52 (n a b : Int) (w : World) : Calls Try.prog 52 #[.int .i64 n, .int .i64 a, .int .i64 b] w fun e w' => e = .returned (.bool (decide (a ≤ n ∧ n ≤ b))) ∧ w = w' := by
 have H := Lib.hid (fun w => In81 n a b w)
 obtain ⟨q, hq⟩ : ∃ q, decide (a ≤ n ∧ n ≤ b) = q := ⟨_, rfl⟩
 rw [hq] at H ⊢
 clear hq
 go_enter Try.func52, Try.ntmps52
 go_wp2_with (go_at_call 81; (with_reducible refine (H.out _).mono ?_); rintro e w1 ⟨rfl, rfl⟩)
 go_ret
 exact ⟨rfl, rfl⟩
theorem results_k {fn : Func} {t : Tmp} {b : Nat} {x y : Int} {ty : TypeId} (hf : fn.results = #[.cell t ty]) (ha : ∀ w, (isAgg ty).run Try.prog w = .ok true w) (hz : ∀ w, (sizeOf ty).run Try.prog w = .ok 2 w) (tmps : Array Value) (w : World) (ht : tmps.getD t undef = .pointer (some ⟨b, 0, none⟩)) (h0 : w.cell? ⟨b, 0, none⟩ = some (.int .i64 x)) (h1 : w.cell? ⟨b, 1, none⟩ = some (.int .i64 y)) :
  (results fn tmps).run Try.prog w = .ok (Pv x y) w := by
 have hl : (loadCells ⟨b, 0, none⟩ 2).run Try.prog w = .ok (Pv x y).cells w :=
  run_loadCells_list (P := Try.prog) w ⟨b, 0, none⟩ [.int .i64 x, .int .i64 y] (fun j v hv => by
   rw [Addr.add_mid]
   rcases j with _ | _ | j <;> simp at hv <;> subst hv <;> assumption)
 have hz : (loadVar ty ⟨b, 0, none⟩).run Try.prog w = .ok (Pv x y) w := by
  simp only [loadVar, Sem.run_bind, ha, hz, hl, Result.andThen_ok, Sem.run_pure, if_true]; rfl
 have hz' : (asAddr (tmps.getD t undef)).run Try.prog w = .ok ⟨b, 0, none⟩ w := by rw [ht]; rfl
 simp only [Array.getD_eq_getD_getElem?] at hz' ⊢
 simp [results, hf, hz', hz]
theorem pair69 (a b : Int) (w : World) : Calls Try.prog 69 #[.int .i64 a, .int .i64 b] w fun e w' => e = .returned (Pv (min a b) (max a b)) ∧ Below w.heap.size w w' := by
 go_enter Try.func69, Try.ntmps69
 go_wp2_with fail
 all_goals
  refine bodyPost_ret (results_k (x := min a b) (y := max a b) rfl (fun _ => by kernel_rfl) (fun _ => by kernel_rfl) _ _ rfl ?_ ?_) rfl ⟨rfl, (Below.refl _ _).alloc (Nat.le_refl _) _⟩
  ·first | (simp [go_sem]; done) | (simp [go_sem]; omega)
  ·first | (simp [go_sem]; done) | (simp [go_sem]; omega)
theorem pair62 (a b : Int) (w : World) : Calls Try.prog 62 #[.int .i64 a, .int .i64 b] w fun e w' => e = .returned (Pv (min a b) (max a b)) ∧ Below w.heap.size w w' := by
 go_enter Try.func62, Try.ntmps62
 go_wp2_with fail
 all_goals
  refine bodyPost_ret (results_k (x := min a b) (y := max a b) rfl (fun _ => by kernel_rfl) (fun _ => by kernel_rfl) _ _ rfl ?_ ?_) rfl ⟨rfl, (Below.refl _ _).alloc (Nat.le_refl _) _⟩
  ·first | (simp [go_sem]; done) | (simp [go_sem]; omega)
  ·first | (simp [go_sem]; done) | (simp [go_sem]; omega)
theorem seed49 (n : Int) (w : World) : Calls Try.prog 49 #[.int .i64 n] w fun e w' => e = .returned (Pv 0 n) ∧ Below w.heap.size w w' := by
 go_enter Try.func49, Try.ntmps49
 go_wp2_with fail
 refine bodyPost_ret (results_k (x := 0) (y := n) rfl (fun _ => by kernel_rfl) (fun _ => by kernel_rfl) _ _ rfl ?_ ?_) rfl ⟨rfl, (Below.refl _ _).alloc (Nat.le_refl _) _⟩
 ·simp [go_sem]
 ·simp [go_sem]
theorem loser57 (n : Int) (w : World) : Calls Try.prog 57 #[.int .i64 n] w fun e w' => e = .returned (Pv 2 n) ∧ Below w.heap.size w w' := by
 go_enter Try.func57, Try.ntmps57
 go_wp2_with fail
 refine bodyPost_ret (results_k (x := 2) (y := n) rfl (fun _ => by kernel_rfl) (fun _ => by kernel_rfl) _ _ rfl ?_ ?_) rfl ⟨rfl, (Below.refl _ _).alloc (Nat.le_refl _) _⟩
 ·simp [go_sem]
 ·simp [go_sem]
theorem winner58 (n : Int) (w : World) : Calls Try.prog 58 #[.int .i64 n] w fun e w' => e = .returned (Pv 1 n) ∧ Below w.heap.size w w' := by
 go_enter Try.func58, Try.ntmps58
 go_wp2_with fail
 refine bodyPost_ret (results_k (x := 1) (y := n) rfl (fun _ => by kernel_rfl) (fun _ => by kernel_rfl) _ _ rfl ?_ ?_) rfl ⟨rfl, (Below.refl _ _).alloc (Nat.le_refl _) _⟩
 ·simp [go_sem]
 ·simp [go_sem]
end Go.Proofs.Ytlfbbofcnonhdaa

/- A range over an iterator that hands out one value a round, in new memory: the iterator's contract, and the statement, outermost and within a round. -/
namespace Go.Proofs.Ytlfbbofcnonhdaa
open Go.RowKit Go.Proofs Go.Shelf
attribute [local go_sem] Oper.semAt_some

/-- All blocks of cells lie as they lay, and all that lies below n0. -/
def Kc (n0 : Nat) (W W' : World) : Prop := Below n0 W W' ∧ ∀ (k : Nat) (cs : Array Value) (t : TypeId) (fz : Nat × Nat), W.heap[k]? = some (Obj.cells cs t fz) → W'.heap[k]? = some (Obj.cells cs t fz)
theorem Kc.of_below {n0 : Nat} {W W' : World} (h : Below W.heap.size W W') (hn : n0 ≤ W.heap.size) : Kc n0 W W' :=
 ⟨h.mono hn, fun k _ _ _ hk => (h.block k (Array.getElem?_eq_some_iff.1 hk).1).trans hk⟩
theorem Kc.alloc {n0 : Nat} (W : World) (o : Obj) (h : n0 ≤ W.heap.size) : Kc n0 W (W.alloc o) :=
 Kc.of_below ((Below.refl _ _).alloc (Nat.le_refl _) _) h
theorem Kc.putObj {n0 : Nat} {W : World} {l : Nat} {o : Obj} (o' : Obj) (hl : W.heap[l]? = some o) (ho : o.isCells = false) (h : n0 ≤ l) : Kc n0 W (W.putObj l o') :=
 ⟨(Below.refl n0 W).grown (grownBy_putObj' W l o') (by have := (Array.getElem?_eq_some_iff.1 hl).1; omega) (fun k e => by cases e; omega), fun k cs t fz hk => by
  by_cases e : k = l
  ·subst e; rw [hl] at hk; cases hk; cases ho
  ·exact (World.putObj_heap_other (fun h => e h)).trans hk⟩
theorem Kc.trans {n0 : Nat} {A B C : World} (h : Kc n0 A B) (h' : Kc n0 B C) : Kc n0 A C := ⟨h.1.trans h'.1, fun k cs t fz hk => h'.2 k cs t fz (h.2 k cs t fz hk)⟩
/-- The contract of an iterator f, with what it has captured (C: what its cells hold), that hands out xs; Y: what a value says (and from which block on it lies: the heap's size as the round began). -/
def IterC {X : Type} (n n0 : Nat) (f : FuncId) (caps : Array Value) (C : World → Prop) (xs : List X) (Y : X → Value → Nat → World → Prop) : Prop :=
 ∀ (l : Nat) (J : List X → World → Prop) (W : World), n0 ≤ W.heap.size →
  (∀ s A B, n0 ≤ A.heap.size → J s A → Below A.heap.size A B → J s B) →
  (∀ pre x v Wb W1, n0 ≤ Wb.heap.size → J pre Wb → Below Wb.heap.size Wb W1 → C W1 → pre ++ [x] <+: xs → Y x v Wb.heap.size W1 → YieldAt Fence.wide (n - 1) Try.prog l #[v] W1 fun e W' => e = .returned (.bool true) ∧ J (pre ++ [x]) W' ∧ C W' ∧ n0 ≤ W'.heap.size) →
  C W → J [] W →
  CallsIn Fence.wide n Try.prog f (#[.func (.yield l) #[] #[]] ++ caps) W fun e W' => (∃ v, e = .returned v) ∧ J xs W' ∧ C W' ∧ n0 ≤ W'.heap.size
/-- How a round's body is left: off its end. -/
def itPost {X : Type} (C : World → Prop) (I : List X → World → Prop) (xs : List X) (n0 : Nat) (W : World) : Exit → Act → World → Prop
 | .normal, _, W' => KeepsOthers W W' ∧ I xs W' ∧ C W' ∧ n0 ≤ W'.heap.size
 | _, _, _ => False

set_option maxHeartbeats 2000000 in
theorem range_it {X : Type} {ps : Array Tmp} {assign body : Code} {Q : Exit → Act → World → Prop} {a : Act} {w : World} {n n0 : Nat} (h1 : 2 ≤ n) {g : Operand} {f : FuncId} {caps : Array Value} {C : World → Prop} {xs : List X} {Y : X → Value → Nat → World → Prop}
  (hit : IterC (n - 1) n0 f caps C xs Y) (hg : a.eval g = .func (.func f) #[] caps) (hf : ∀ args w, (callFunc f args).run Try.prog w = .ok (.enter f args) w) (hps : ps.size = 1) (hC : ∀ A B, C A → Kc n0 A B → C B) (hY : ∀ x v m A B, Y x v m A → Kc n0 A B → Y x v m B)
  (hw : n0 ≤ w.heap.size) (I : List X → World → Prop) (hIk : ∀ s A B, n0 ≤ A.heap.size → I s A → Kc n0 A B → I s B) (h0 : I [] w) (hc0 : C w)
  (hab : ∃ a1 : Value → Act, (∀ (l' : Nat) (v : Value) (W : World) (K : Act → World → Prop), K (a1 v) W →
   assign.wpIn (Fence.wide.inRound l') (n - 1 - 1) Try.prog (Exit.then K (fun _ _ _ => False)) { tmps := (ps.zip #[v]).foldl (fun t (p, v) => t.setIfInBounds p v) a.tmps, defers := [] } W) ∧
   (∀ (l' : Nat) (pre : List X) (x : X) (v : Value) (Wb W : World), (∃ r, W.heap[l']? = some (.loop r)) → n0 ≤ l' → n0 ≤ Wb.heap.size → I pre Wb → Kc n0 Wb W → C W → pre ++ [x] <+: xs → Y x v Wb.heap.size W → body.wpIn (Fence.wide.inRound l') (n - 1 - 1) Try.prog (itPost C I (pre ++ [x]) n0 W) (a1 v) W))
  (hdone : ∀ (D : Nat) (W : World), I xs W → C W → n0 ≤ W.heap.size → W.heap[D]? = some (.deferred (some [])) → w.heap.size ≤ D → Q .normal { a with defers := { target := .collected D, args := #[] } :: a.defers } W) :
  (Code.rangeFunc g ps assign body).wpIn Fence.wide n Try.prog Q a w := by
 obtain ⟨a1, hassign, hbody⟩ := hab
 refine wpIn_rangeFunc ?_
 intro fn hfn
 obtain ⟨rec, hrec⟩ : ∃ rec : LoopState → Option Code → Loop, rec = fun st pe => { state := st, pending := pe, fn, tmps := a.tmps, params := ps, assign, body, defers := w.heap.size } := ⟨_, rfl⟩
 obtain ⟨W1, hW1⟩ : ∃ W1, (w.alloc (.deferred (some []))).alloc (.loop (rec .ready none)) = W1 := ⟨_, rfl⟩
 have hL1 : W1.heap[w.heap.size + 1]? = some (.loop (rec .ready none)) := by
  rw [← hW1]; have := World.alloc_heap_new (w.alloc (.deferred (some []))) (.loop (rec .ready none)); rwa [World.size_alloc] at this
 have hK1 : W1.heap[w.heap.size]? = some (.deferred (some [])) := by
  rw [← hW1]; exact (Below.heap_alloc _ _ _ (by simp)).trans (World.alloc_heap_new w _)
 have kc1 : Kc n0 w W1 := by rw [← hW1]; exact (Kc.alloc _ _ hw).trans (Kc.alloc _ _ (by simp; omega))
 have hI1 : I [] W1 := hIk _ _ _ hw h0 kc1
 have hC1 : C W1 := hC _ _ hc0 kc1
 refine ⟨w.heap.size + 1, [{ target := .collected w.heap.size, args := #[] }], W1, { target := .fn (.func f) caps, args := #[.func (.yield (w.heap.size + 1)) #[] #[]] }, W1, f,
  #[.func (.yield (w.heap.size + 1)) #[] #[]] ++ caps, W1, ?_, ?_, ?_, ?_, fun _ => by omega, ?_⟩
 ·rw [← hW1, hrec]; exact run_enterLoop_outer _ _ _ _ _
 ·simp only [resolve, hg]
  simp [go_sem]
 ·intro f' _; exact trivial
 ·simp [invoke, go_sem, hf]
 ·refine (hit (w.heap.size + 1)
   (fun pre W => I pre W ∧ W.heap[w.heap.size + 1]? = some (.loop (rec .ready none)) ∧ W.heap[w.heap.size]? = some (.deferred (some []))) W1 (Nat.le_trans hw kc1.1.size) ?_ ?_ hC1 ⟨hI1, hL1, hK1⟩).mono ?_
  ·rintro s W W' hz ⟨hi, hl, hk⟩ hbl
   exact ⟨hIk _ _ _ hz hi (Kc.of_below hbl hz), (hbl.block _ (Array.getElem?_eq_some_iff.1 hl).1).trans hl, (hbl.block _ (Array.getElem?_eq_some_iff.1 hk).1).trans hk⟩
  ·rintro pre x v Wb W hzb ⟨hib, hlb, hkb⟩ hbb hcW hpre hyv
   have hl := (hbb.block _ (Array.getElem?_eq_some_iff.1 hlb).1).trans hlb
   have hk := (hbb.block _ (Array.getElem?_eq_some_iff.1 hkb).1).trans hkb
   have hzW := Nat.le_trans hzb hbb.size
   have hlt : w.heap.size + 1 < W.heap.size := (Array.getElem?_eq_some_iff.1 hl).1
   have hy := run_yield (P := Try.prog) (args := #[v]) hl (by rw [hrec]; simp [hps])
   rw [hrec] at hy
   refine ⟨fn, _, assign, body, hy, roundIn_of_wpIn hfn (hassign _ v W _ ⟨_, run_beginRound hl (by rw [hrec]), ?_⟩)⟩
   have hl2 : (W.putObj (w.heap.size + 1) (.loop { rec .ready none with state := .busy })).heap[w.heap.size + 1]? = some (.loop { rec .ready none with state := .busy }) := World.putObj_heap_same hlt
   have hk2 : (W.putObj (w.heap.size + 1) (.loop { rec .ready none with state := .busy })).heap[w.heap.size]? = some (.deferred (some [])) := (World.putObj_heap_other (by omega)).trans hk
   have hkc2 := Kc.putObj (n0 := n0) (.loop { rec .ready none with state := .busy }) hl rfl (by omega)
   refine wpIn_mono (hbody _ pre x v Wb _ ⟨_, hl2⟩ (by omega) hzb hib ((Kc.of_below hbb hzb).trans hkc2) (hC _ _ hcW hkc2) hpre (hY _ _ _ _ _ hyv hkc2)) ?_
   rintro e a3 W3 hp
   cases e with
   | normal =>
    obtain ⟨hk3, hi3, hc3, hz3⟩ := hp
    have hl3 := hk3.same _ _ hl2 rfl
    have he := run_endRound (P := Try.prog) none hl3
    rw [hrec] at he
    have hkc3 := Kc.putObj (n0 := n0) (.loop { rec .ready none with state := .ready }) hl3 rfl (by omega)
    refine ⟨_, _, he, rfl, ⟨hIk _ _ _ hz3 hi3 (Kc.putObj _ hl3 rfl (by omega)), ?_, (World.putObj_heap_other (by omega)).trans (hk3.same _ _ hk2 rfl)⟩, hC _ _ hc3 (Kc.putObj _ hl3 rfl (by omega)), Nat.le_trans hz3 (Kc.putObj (n0 := n0) _ hl3 rfl (by omega)).1.size⟩
    rw [hrec]; exact World.putObj_heap_same (Array.getElem?_eq_some_iff.1 hl3).1
   | ret => exact hp.elim
   | exit id => exact hp.elim
   | goto t => exact hp.elim
   | panic ch => exact hp.elim
   | outgrown => exact hp.elim
  ·rintro e W2 ⟨⟨u, rfl⟩, ⟨hi, hl, hk⟩, hc2, hz2⟩
   have he := run_endLoop (P := Try.prog) hl (by rw [hrec]; simp)
   rw [hrec] at he
   exact ⟨none, _, he, hdone _ _ (hIk _ _ _ hz2 hi (Kc.putObj _ hl rfl (by omega))) (hC _ _ hc2 (Kc.putObj _ hl rfl (by omega))) (Nat.le_trans hz2 (Kc.putObj (n0 := n0) _ hl rfl (by omega)).1.size) ((World.putObj_heap_other (by omega)).trans hk) (Nat.le_refl _)⟩

set_option maxHeartbeats 2000000 in
theorem range_in {X : Type} {ps : Array Tmp} {assign body : Code} {Q : Exit → Act → World → Prop} {a : Act} {w : World} {n n0 l₀ : Nat} {r₀ : Loop} (hl₀ : w.heap[l₀]? = some (.loop r₀)) (h1 : 2 ≤ n) {g : Operand} {f : FuncId} {caps : Array Value} {C : World → Prop} {xs : List X} {Y : X → Value → Nat → World → Prop}
  (hit : IterC (n - 1) n0 f caps C xs Y) (hg : a.eval g = .func (.func f) #[] caps) (hf : ∀ args w, (callFunc f args).run Try.prog w = .ok (.enter f args) w) (hps : ps.size = 1) (hC : ∀ A B, C A → Kc n0 A B → C B) (hY : ∀ x v m A B, Y x v m A → Kc n0 A B → Y x v m B)
  (hw : n0 ≤ w.heap.size) (I : List X → World → Prop) (hIk : ∀ s A B, n0 ≤ A.heap.size → I s A → Kc n0 A B → Below w.heap.size A B → I s B) (h0 : I [] w) (hc0 : C w)
  (hab : ∃ a1 : Value → Act, (∀ (l' : Nat) (v : Value) (W : World) (K : Act → World → Prop), K (a1 v) W →
   assign.wpIn (Fence.wide.inRound l') (n - 1 - 1) Try.prog (Exit.then K (fun _ _ _ => False)) { tmps := (ps.zip #[v]).foldl (fun t (p, v) => t.setIfInBounds p v) a.tmps, defers := [] } W) ∧
   (∀ (l' : Nat) (pre : List X) (x : X) (v : Value) (m : Nat) (W : World), n0 ≤ l' → I pre W → C W → pre ++ [x] <+: xs → Y x v m W → n0 ≤ W.heap.size → body.wpIn (Fence.wide.inRound l') (n - 1 - 1) Try.prog (itPost C I (pre ++ [x]) n0 W) (a1 v) W))
  (hdone : ∀ (W : World), I xs W → C W → n0 ≤ W.heap.size → Q .normal a W) :
  (Code.rangeFunc g ps assign body).wpIn (Fence.wide.inRound l₀) n Try.prog Q a w := by
 obtain ⟨a1, hassign, hbody⟩ := hab
 refine wpIn_rangeFunc ?_
 intro fn hfn
 obtain ⟨rec, hrec⟩ : ∃ rec : LoopState → Option Code → Loop, rec = fun st pe => { state := st, pending := pe, fn, tmps := a.tmps, params := ps, assign, body, defers := r₀.defers } := ⟨_, rfl⟩
 obtain ⟨W1, hW1⟩ : ∃ W1, w.alloc (.loop (rec .ready none)) = W1 := ⟨_, rfl⟩
 have hL1 : W1.heap[w.heap.size]? = some (.loop (rec .ready none)) := by rw [← hW1]; exact World.alloc_heap_new w _
 have kc1 : Kc n0 w W1 := by rw [← hW1]; exact Kc.alloc _ _ hw
 have kf1 : Below w.heap.size w W1 := by rw [← hW1]; exact (Below.refl _ _).alloc (Nat.le_refl _) _
 have hI1 : I [] W1 := hIk _ _ _ hw h0 kc1 kf1
 have hC1 : C W1 := hC _ _ hc0 kc1
 have kfp : ∀ (W : World) (o' o : Obj), W.heap[w.heap.size]? = some o → Below w.heap.size W (W.putObj w.heap.size o') := fun W o' o h =>
  (Below.refl _ W).grown (grownBy_putObj' W w.heap.size o') (by have := (Array.getElem?_eq_some_iff.1 h).1; omega) (fun k e => by cases e; omega)
 refine ⟨w.heap.size, [], W1, { target := .fn (.func f) caps, args := #[.func (.yield w.heap.size) #[] #[]] }, W1, f,
  #[.func (.yield w.heap.size) #[] #[]] ++ caps, W1, ?_, ?_, ?_, ?_, fun _ => by omega, ?_⟩
 ·rw [← hW1, hrec]; exact run_enterLoop_inner hl₀ _ _ _ _ _
 ·simp only [resolve, hg]
  simp [go_sem]
 ·intro f' _; exact trivial
 ·simp [invoke, go_sem, hf]
 ·refine (CallsIn.inRound l₀ (hit w.heap.size
   (fun pre W => I pre W ∧ W.heap[w.heap.size]? = some (.loop (rec .ready none))) W1 (Nat.le_trans hw kc1.1.size) ?_ ?_ hC1 ⟨hI1, hL1⟩)).mono ?_
  ·rintro s W W' hz ⟨hi, hl⟩ hbl
   exact ⟨hIk _ _ _ hz hi (Kc.of_below hbl hz) (hbl.mono (by have := (Array.getElem?_eq_some_iff.1 hl).1; omega)), (hbl.block _ (Array.getElem?_eq_some_iff.1 hl).1).trans hl⟩
  ·rintro pre x v Wb W hzb ⟨hib, hlb⟩ hbb hcW hpre hyv
   have hl := (hbb.block _ (Array.getElem?_eq_some_iff.1 hlb).1).trans hlb
   have hzW := Nat.le_trans hzb hbb.size
   have hi := hIk _ _ _ hzb hib (Kc.of_below hbb hzb) (hbb.mono (by have := (Array.getElem?_eq_some_iff.1 hlb).1; omega))
   have hlt : w.heap.size < W.heap.size := (Array.getElem?_eq_some_iff.1 hl).1
   have hy := run_yield (P := Try.prog) (args := #[v]) hl (by rw [hrec]; simp [hps])
   rw [hrec] at hy
   refine ⟨fn, _, assign, body, hy, roundIn_of_wpIn hfn (hassign _ v W _ ⟨_, run_beginRound hl (by rw [hrec]), ?_⟩)⟩
   have hl2 : (W.putObj w.heap.size (.loop { rec .ready none with state := .busy })).heap[w.heap.size]? = some (.loop { rec .ready none with state := .busy }) := World.putObj_heap_same hlt
   have hkc2 := Kc.putObj (n0 := n0) (.loop { rec .ready none with state := .busy }) hl rfl (by omega)
   have hz2 : n0 ≤ (W.putObj w.heap.size (.loop { rec .ready none with state := .busy })).heap.size := Nat.le_trans hzW hkc2.1.size
   refine wpIn_mono (hbody _ pre x v _ _ (by omega) (hIk _ _ _ hzW hi hkc2 (kfp _ _ _ hl)) (hC _ _ hcW hkc2) hpre (hY _ _ _ _ _ hyv hkc2) hz2) ?_
   rintro e a3 W3 hp
   cases e with
   | normal =>
    obtain ⟨hk3, hi3, hc3, hz3⟩ := hp
    have hl3 := hk3.same _ _ hl2 rfl
    have he := run_endRound (P := Try.prog) none hl3
    rw [hrec] at he
    refine ⟨_, _, he, rfl, ⟨hIk _ _ _ hz3 hi3 (Kc.putObj _ hl3 rfl (by omega)) (kfp _ _ _ hl3), ?_⟩, hC _ _ hc3 (Kc.putObj _ hl3 rfl (by omega)), Nat.le_trans hz3 (Kc.putObj (n0 := n0) _ hl3 rfl (by omega)).1.size⟩
    rw [hrec]; exact World.putObj_heap_same (Array.getElem?_eq_some_iff.1 hl3).1
   | ret => exact hp.elim
   | exit id => exact hp.elim
   | goto t => exact hp.elim
   | panic ch => exact hp.elim
   | outgrown => exact hp.elim
  ·rintro e W2 ⟨⟨u, rfl⟩, ⟨hi, hl⟩, hc2, hz2⟩
   have he := run_endLoop (P := Try.prog) hl (by rw [hrec]; simp)
   rw [hrec] at he
   exact ⟨none, _, he, hdone _ (hIk _ _ _ hz2 hi (Kc.putObj _ hl rfl (by omega)) (kfp _ _ _ hl)) (hC _ _ hc2 (Kc.putObj _ hl rfl (by omega))) (Nat.le_trans hz2 (Kc.putObj (n0 := n0) _ hl rfl (by omega)).1.size)⟩
end Go.Proofs.Ytlfbbofcnonhdaa
