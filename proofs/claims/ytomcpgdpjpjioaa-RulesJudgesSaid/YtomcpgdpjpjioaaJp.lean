/- What judge leaves in memory, and the plain ruling. -/
import Derived.Test.YtomcpgdpjpjioaaJs
import Derived.Test.YtomcpgdpjpjioaaLn
import Derived.Test.YtomcpgdpjpjioaaCt
namespace Go.Proofs.Ytomcpgdpjpjioaa
open Go.RowKit Go.Proofs Go.Shelf

/-- A ruling's three cells, that may be written. -/
def r3C (r ch : Int) (v : Value) : List Value := [.int .i64 r, .int .i64 ch, v]
def R3 (W : World) (b : Nat) (r ch : Int) (v : Value) : Prop := ∀ j, j < 3 → W.cell? ⟨b, j, none⟩ = (r3C r ch v)[j]? ∧ W.frozen? ⟨b, j, none⟩ = false
theorem R3.lt {W : World} {b : Nat} {r ch : Int} {v : Value} (h : R3 W b r ch v) : b < W.heap.size := by
  have h0 : W.cell? ⟨b, 0, none⟩ = some (.int .i64 r) := (h 0 (by omega)).1
  exact lt_cell h0
theorem R3.kept {w w' : World} {b : Nat} {r ch : Int} {v : Value} {row : Option Nat} (h : R3 w b r ch v) (hg : w.grownBy w' row) (hne : some b ≠ row) : R3 w' b r ch v := by
  have hk := hg.block b h.lt hne
  exact fun j hj => ⟨(cell_heap hk).trans (h j hj).1, (frozen_heap hk).trans (h j hj).2⟩
theorem R3.up {w w' : World} {b : Nat} {r ch : Int} {v : Value} (h : R3 w b r ch v) (hb : Below w.heap.size w w') : R3 w' b r ch v := h.kept (grown_of hb none) (by simp)
theorem R3.new (w : World) (r ch : Int) (v : Value) : R3 (w.alloc (.cells #[.int .i64 r, .int .i64 ch, v] 40)) w.heap.size r ch v := by
  intro j hj
  rcases j with _ | _ | _ | j
  all_goals first
    | (exfalso; omega)
    | exact ⟨by simp [go_sem]; rfl, by simp [go_sem]⟩
theorem R3.set0 {w : World} {b : Nat} {r ch : Int} {v : Value} (h : R3 w b r ch v) (q : Int) : R3 (w.setCell ⟨b, 0, none⟩ (.int .i64 q)) b q ch v := by
  intro j hj
  have h6 := h 0 (by omega)
  have hj' := h j hj
  rcases j with _ | _ | _ | j
  all_goals first
    | (exfalso; omega)
    | (refine ⟨?_, ?_⟩ <;> simp_all [go_sem, r3C])
theorem R3.set1 {w : World} {b : Nat} {r ch : Int} {v : Value} (h : R3 w b r ch v) (q : Int) : R3 (w.setCell ⟨b, 1, none⟩ (.int .i64 q)) b r q v := by
  intro j hj
  have h6 := h 1 (by omega)
  have hj' := h j hj
  rcases j with _ | _ | _ | j
  all_goals first
    | (exfalso; omega)
    | (refine ⟨?_, ?_⟩ <;> simp_all [go_sem, r3C])
theorem R3.set2 {w : World} {b : Nat} {r ch : Int} {v : Value} (h : R3 w b r ch v) (q : Value) : R3 (w.setCell ⟨b, 2, none⟩ q) b r ch q := by
  intro j hj
  have h6 := h 2 (by omega)
  have hj' := h j hj
  rcases j with _ | _ | _ | j
  all_goals first
    | (exfalso; omega)
    | (refine ⟨?_, ?_⟩ <;> simp_all [go_sem, r3C])
theorem R3.cells {w : World} {b : Nat} {r ch : Int} {v : Value} (h : R3 w b r ch v) :
    (w.cell? ⟨b, 0, none⟩ = some (.int .i64 r) ∧ w.cell? ⟨b, 1, none⟩ = some (.int .i64 ch) ∧ w.cell? ⟨b, 2, none⟩ = some v) ∧ w.frozen? ⟨b, 0, none⟩ = false ∧ w.frozen? ⟨b, 1, none⟩ = false ∧ w.frozen? ⟨b, 2, none⟩ = false :=
  ⟨⟨(h 0 (by omega)).1, (h 1 (by omega)).1, (h 2 (by omega)).1⟩, (h 0 (by omega)).2, (h 1 (by omega)).2, (h 2 (by omega)).2⟩
theorem set3 {w : World} {b : Nat} {r0 c0 : Int} {v0 : Value} (h : R3 w b r0 c0 v0) (r ch : Int) (v : Value) :
    R3 (((w.setCell ⟨b, 0, none⟩ (.int .i64 r)).setCell ⟨b, 1, none⟩ (.int .i64 ch)).setCell ⟨b, 2, none⟩ v) b r ch v := ((h.set0 r).set1 ch).set2 v
abbrev Rlv (r ch : Int) (v : Value) : Value := .agg #[.int .i64 r, .int .i64 ch, v]
theorem results_r3 {fn : Func} {t : Tmp} {b : Nat} {r ch : Int} {v : Value} (hf : fn.results = #[.cell t 40]) (tmps : Array Value) (w : World) (ht : tmps.getD t undef = .pointer (some ⟨b, 0, none⟩)) (h : R3 w b r ch v) (hv : ∃ A n c, v = .slice A n c) :
    (results fn tmps).run Try.prog w = .ok (Rlv r ch v) w := by
  obtain ⟨A, n, c, rfl⟩ := hv
  have hl : (loadCells ⟨b, 0, none⟩ 3).run Try.prog w = .ok (Rlv r ch (.slice A n c)).cells w :=
    run_loadCells_list (P := Try.prog) w ⟨b, 0, none⟩ (r3C r ch (.slice A n c)) (fun j v hv => by
      have hj : j < 3 := by
        have := (List.getElem?_eq_some_iff.1 hv).1
        simpa [r3C] using this
      rw [Addr.add_mid, Nat.zero_add, (h j hj).1]; exact hv)
  have hz : (loadVar 40 ⟨b, 0, none⟩).run Try.prog w = .ok (Rlv r ch (.slice A n c)) w := by
    have h1 : (isAgg 40).run Try.prog w = .ok true w := by kernel_rfl
    have h2 : (sizeOf 40).run Try.prog w = .ok 3 w := by kernel_rfl
    simp only [loadVar, Sem.run_bind, h1, h2, hl, Result.andThen_ok, Sem.run_pure, if_true]; rfl
  have hz' : (asAddr (tmps.getD t undef)).run Try.prog w = .ok ⟨b, 0, none⟩ w := by rw [ht]; rfl
  simp only [Array.getD_eq_getD_getElem?] at hz' ⊢
  simp [results, hf, hz', hz]
/-- A new slice of outcomes. -/
theorem RowO.new (W : World) (L : List Oc) (cs : Array Value) (hc : cs.toList = L.flatMap oC) (hl : L.length ≤ 1000) :
    RowO (W.alloc (.cells cs 46)) (.slice (some ⟨W.heap.size, 0, none⟩) L.length L.length) L := by
  refine ⟨_, _, rfl, Nat.le_refl _, ⟨by omega, by unfold maxLen; omega⟩, fun _ => ⟨_, 0, rfl, fun j hj => ?_⟩⟩
  have one : ∀ i, i < 2 → (W.alloc (.cells cs 46)).cell? ⟨W.heap.size, j * 2 + i, none⟩ = (oC (L[j]'hj))[i]? := fun i hi => by
    rw [← oC_get hj i hi, ← hc, Array.getElem?_toList]
    simp [go_sem]
  refine ⟨?_, ?_⟩
  · rw [Nat.zero_add]; exact (one 0 (by omega)).trans rfl
  · rw [Nat.zero_add]; exact (one 1 (by omega)).trans rfl
/-- Outcomes, plainly. -/
abbrev Pr := List St × Bool
def oP (p : Oc) : Pr := (p.l, p.g)
def samP (p o : Pr) : Bool := p.2 == o.2 && eqL p.1 o.1
def ddP (L : List Pr) : List Pr := L.foldl (fun out o => if (out.any fun p => samP p o) = true then out else out ++ [o]) []
theorem dd_mapA (L : List Oc) : ∀ (A : List Oc) (B : List Pr), A.map oP = B →
    (L.foldl (fun out o => if (out.any fun p => samO p o) = true then out else out ++ [o]) A).map oP = (L.map oP).foldl (fun out o => if (out.any fun p => samP p o) = true then out else out ++ [o]) B := by
  induction L with
  | nil => exact fun _ _ h => h
  | cons o L ih =>
    intro A B h
    simp only [List.foldl_cons, List.map_cons]
    have e : (A.any fun p => samO p o) = (B.any fun p => samP p (oP o)) := by
      rw [← h, List.any_map]; rfl
    rw [e]
    by_cases hb : (B.any fun p => samP p (oP o)) = true
    · rw [if_pos hb, if_pos hb]; exact ih A B h
    · rw [if_neg hb, if_neg hb]; exact ih _ _ (by rw [List.map_append, h]; rfl)
theorem dd_map (L : List Oc) : (dd L).map oP = ddP (L.map oP) := dd_mapA L [] [] rfl
/-- Which rule applies. -/
def ruleN (x : Th) (r m s : Bool) : Nat := match (List.range 9).find? (apL x r m s) with | some k => k + 1 | none => 0
theorem ruleN_at {x : Th} {r m s : Bool} {k : Nat} (hk : k < 9) (h : apL x r m s k = true) (hn : ∀ j, j < k → apL x r m s j = false) : ruleN x r m s = k + 1 := by
  unfold ruleN
  have : (List.range 9).find? (apL x r m s) = some k := by
    rw [List.find?_range_eq_some]
    exact ⟨h, List.mem_range.2 hk, fun j hj => by rw [hn j hj]; rfl⟩
  rw [this]
theorem ruleN_no {x : Th} {r m s : Bool} (hn : ∀ j, j < 9 → apL x r m s j = false) : ruleN x r m s = 0 := by
  unfold ruleN
  have : (List.range 9).find? (apL x r m s) = none := by
    rw [List.find?_eq_none]
    intro j hj
    rw [hn j (List.mem_range.1 hj)]; simp
  rw [this]
theorem ruleN_le (x : Th) (r m s : Bool) : ruleN x r m s ≤ 9 := by
  unfold ruleN
  split
  · rename_i k h
    have := List.mem_range.1 (List.mem_of_find?_eq_some h)
    omega
  · omega
/-- The stones without the one that was thrown. -/
def gone (x : Th) (m : List St) : List St := m.filter (fun s => !eqK s.t s.n x.team x.n)
/-- The outcomes of a rule, and who chooses. -/
def judP (rule : Nat) (x : Th) (l m : List St) : List Pr :=
  if rule = 0 then [(srt m, false)] else if rule = 4 then [(srt l, true)] else if rule = 5 then ddP [(srt l, false), (srt m, false), (srt (gone x m), false)]
  else if rule = 6 then ddP [(srt m, false), (srt l, true)] else if rule = 9 then ddP [(srt m, false), (srt l, false)] else [(srt l, false)]
def judC (rule : Nat) (x : Th) : Int := if rule = 5 ∨ rule = 9 then 1 - x.team else if rule = 6 then x.team else -1
/-- Where judge is behind its loop. -/
def JdS (w W : World) (pr : Nat) (x : Th) (u : Value) (rule : Int) : Prop :=
  Below w.heap.size w W ∧ Th6 W (w.heap.size + 1) x u ∧ R3 W (w.heap.size + 1 + 1) 0 0 (.slice none 0 0) ∧ R3 W pr rule (-1) (.slice none 0 0) ∧ w.heap.size + 3 ≤ pr
theorem JdS.up {w W W' : World} {pr : Nat} {x : Th} {u : Value} {rule : Int} (h : JdS w W pr x u rule) (hb : Below W.heap.size W W') : JdS w W' pr x u rule := by
  obtain ⟨h1, h2, h3, h4, h5⟩ := h
  exact ⟨h1.trans (hb.mono h1.size), h2.up hb, h3.up hb, h4.up hb, h5⟩
theorem JdS.set0 {w W : World} {pr : Nat} {x : Th} {u : Value} {rule : Int} (h : JdS w W pr x u rule) (q : Int) : JdS w (W.setCell ⟨pr, 0, none⟩ (.int .i64 q)) pr x u q := by
  obtain ⟨h1, h2, h3, h4, h5⟩ := h
  have hg := grown_set W ⟨pr, 0, none⟩ (.int .i64 q)
  exact ⟨h1.setCell (p := ⟨pr, 0, none⟩) (by simp; omega) _, h2.kept hg (by simp; omega), h3.kept hg (by simp; omega), h4.set0 q, h5⟩
end Go.Proofs.Ytomcpgdpjpjioaa
