/- Contracts: CheckThrow; slices.DeleteFunc over stones of the call's own. -/
import Derived.Test.YtomcpgdpjpjioaaCu
import Derived.Test.YtomcpgdpjpjioaaJs
import Derived.Laws.IdiomCopy
namespace Go.Proofs.Ytomcpgdpjpjioaa
open Go.RowKit Go.Proofs Go.Shelf
attribute [local go_sem] Oper.semAt_some

theorem CheckThrow_any (l m : List St) (x : Th) (v u : Value) (w : World) (hv : RowS w v l) (hu : RowS w u m) : Calls Try.prog 19 #[v, Thv x u] w (Back (.bool (thrB l m x)) w) := by
  cases h : thrA l m x
  · have e : thrB l m x = false := by unfold thrB; rw [h]; rfl
    rw [e]
    exact CheckThrow_no l m x v u w hv hu h
  · have e : thrB l m x = (!(lookT l x.team x.n).isSome && m.all (fun s => (lookT l s.t s.n).isSome || eqK s.t s.n x.team x.n) && (!x.short || eqL (srt l) (srt m))) := by unfold thrB; rw [h, Bool.true_and]
    rw [e]
    exact CheckThrow_yes l m x v u w hv hu h
/-- A row of stones that may be written. -/
def RowW (W : World) (g : Nat) (cur : List St) : Prop :=
  ∀ j (h : j < cur.length), At4 W g (j * 4) (cur[j]'h) ∧ W.frozen? ⟨g, j * 4, none⟩ = false ∧ W.frozen? ⟨g, j * 4 + 1, none⟩ = false ∧ W.frozen? ⟨g, j * 4 + 2, none⟩ = false ∧ W.frozen? ⟨g, j * 4 + 3, none⟩ = false
theorem RowW.kept {W W' : World} {g : Nat} {cur : List St} {row : Option Nat} (h : RowW W g cur) (hg : W.grownBy W' row) (hne : some g ≠ row) : RowW W' g cur := by
  intro j hj
  obtain ⟨⟨a0, a1, a2, a3⟩, f0, f1, f2, f3⟩ := h j hj
  have hk := hg.block g (lt_cell a0) hne
  exact ⟨⟨(cell_heap hk).trans a0, (cell_heap hk).trans a1, (cell_heap hk).trans a2, (cell_heap hk).trans a3⟩, (frozen_heap hk).trans f0, (frozen_heap hk).trans f1, (frozen_heap hk).trans f2, (frozen_heap hk).trans f3⟩
theorem RowW.up {W W' : World} {g : Nat} {cur : List St} (h : RowW W g cur) (hb : Below W.heap.size W W') : RowW W' g cur := h.kept (grown_of hb none) (by simp)
theorem RowW.of_own {W : World} {base : Nat} {g c : Nat} {L : List St} (h : OwnS base W (.slice (some ⟨g, 0, none⟩) L.length c) L) : RowW W g L := by
  intro j hj
  have one : ∀ i, i < 4 → W.cell? ⟨g, j * 4 + i, none⟩ = (stC (L[j]'hj))[i]? := fun i hi => by
    rw [← stC_get hj i hi]; exact World.ownsRow.cellAt h _ (by omega)
  exact ⟨⟨(one 0 (by omega)).trans rfl, (one 1 (by omega)).trans rfl, (one 2 (by omega)).trans rfl, (one 3 (by omega)).trans rfl⟩, World.ownsRow.frozenAt h _, World.ownsRow.frozenAt h _, World.ownsRow.frozenAt h _, World.ownsRow.frozenAt h _⟩
theorem grown_setCells (b : Nat) : ∀ (vs : List Value) (o : Nat) (w : World), w.grownBy (w.setCells b o vs) (some b)
  | [], _, _ => ⟨rfl, rfl, rfl, Nat.le_refl _, fun _ _ _ => rfl⟩
  | v :: r, o, w => (grown_set w ⟨b, o, none⟩ v).trans (grown_setCells b r (o + 1) _)
/-- One stone of a row, written. -/
theorem RowW.set {W : World} {g : Nat} {cur : List St} (h : RowW W g cur) (i : Nat) (s : St) (hi : i < cur.length) : RowW (W.setCells g (i * 4) (stC s)) g (cur.set i s) := by
  intro j hj
  rw [List.length_set] at hj
  obtain ⟨⟨a0, a1, a2, a3⟩, f0, f1, f2, f3⟩ := h j hj
  obtain ⟨⟨b0, b1, b2, b3⟩, -⟩ := h i hi
  refine ⟨?_, by rw [World.frozen?_setCells]; exact f0, by rw [World.frozen?_setCells]; exact f1, by rw [World.frozen?_setCells]; exact f2, by rw [World.frozen?_setCells]; exact f3⟩
  by_cases e : j = i
  · subst e
    rw [List.getElem_set_self]
    have hin := World.cell?_setCells_in g (stC s) (j * 4) W (fun q hq => by
      have hq4 : q < 4 := hq
      rcases q with _ | _ | _ | _ | q
      · rw [Nat.add_zero, a0]; rfl
      · rw [a1]; rfl
      · rw [a2]; rfl
      · rw [a3]; rfl
      · omega)
    exact ⟨hin 0 (by simp [stC]), hin 1 (by simp [stC]), hin 2 (by simp [stC]), hin 3 (by simp [stC])⟩
  · rw [List.getElem_set_ne (fun h => e h.symm)]
    have hout : ∀ q, q < 4 → (W.setCells g (i * 4) (stC s)).cell? ⟨g, j * 4 + q, none⟩ = W.cell? ⟨g, j * 4 + q, none⟩ := fun q hq => World.cell?_setCells_out g (stC s) (i * 4) W _ (fun _ _ => by
      show j * 4 + q < i * 4 ∨ i * 4 + 4 ≤ j * 4 + q
      omega)
    exact ⟨(hout 0 (by omega)).trans a0, (hout 1 (by omega)).trans a1, (hout 2 (by omega)).trans a2, (hout 3 (by omega)).trans a3⟩
/-- The cells of n stones, cleared. -/
def zst (n : Nat) : List Value := (Builtin.zeroCells #[.int .i64 0, .int .i64 0, .int .i64 0, .int .i64 0] n).toList
theorem zst_len (n : Nat) : (zst n).length = n * 4 := by simp [zst, Builtin.zeroCells]
theorem zst_one (n : Nat) : ∀ v ∈ zst n, v.oneCell' = true := by
  intro v hv
  simp only [zst, Builtin.zeroCells, Array.toList_map, List.mem_map] at hv
  obtain ⟨i, -, rfl⟩ := hv
  have h4 : i % 4 < 4 := Nat.mod_lt _ (by omega)
  show (#[Value.int .i64 0, .int .i64 0, .int .i64 0, .int .i64 0][i % 4]!).oneCell' = true
  obtain ⟨r, hr⟩ : ∃ r, i % 4 = r := ⟨_, rfl⟩
  rw [hr] at h4 ⊢
  rcases r with _ | _ | _ | _ | r
  · rfl
  · rfl
  · rfl
  · rfl
  · omega
/-- clear, on a slice of stones. -/
theorem run_clear_st (w : World) (ty : TypeId) (g i n c : Nat) (cur : List St) (h : RowW w g cur) (hl : i + n ≤ cur.length) (hn : 0 < n) :
    (Builtin.clear_ #[24] ty #[.slice (some ⟨g, i * 4, none⟩) n c]).run Try.prog w = .ok (.tuple #[]) (w.setCells g (i * 4) (zst n)) := by
  have hc : ∀ q, q < (zst n).length → (w.cell? ⟨g, i * 4 + 0 + q, none⟩).isSome = true ∧ w.frozen? ⟨g, i * 4 + 0 + q, none⟩ = false := by
    intro q hq
    rw [zst_len] at hq
    obtain ⟨⟨a0, a1, a2, a3⟩, f0, f1, f2, f3⟩ := h (i + q / 4) (by omega)
    obtain ⟨r, hr⟩ : ∃ r, q % 4 = r := ⟨_, rfl⟩
    have h4 : r < 4 := by omega
    have e : i * 4 + 0 + q = (i + q / 4) * 4 + r := by omega
    rw [e]
    rcases r with _ | _ | _ | _ | r
    · rw [Nat.add_zero, a0]; exact ⟨rfl, f0⟩
    · rw [a1]; exact ⟨rfl, f1⟩
    · rw [a2]; exact ⟨rfl, f2⟩
    · rw [a3]; exact ⟨rfl, f3⟩
    · omega
  have hst := run_storeCells_cells (P := Try.prog) g (i * 4) (zst n) 0 w (fun q hq => (hc q hq).1) (fun q hq => (hc q hq).2) (zst_one n)
  simp only [Nat.add_zero] at hst
  obtain ⟨m, rfl⟩ : ∃ m, n = m + 1 := ⟨n - 1, by omega⟩
  have hzz : ∀ w, (zeroValue 53).run Try.prog w = .ok (.agg #[.int .i64 0, .int .i64 0, .int .i64 0, .int .i64 0]) w := fun w => by kernel_rfl
  unfold zst at hst
  simp [Builtin.clear_, run_underlying Try.underlying24, hzz, Value.cells, hst, zst]
end Go.Proofs.Ytomcpgdpjpjioaa
