/- Contract: sorted: stones by their teams, then by their numbers. -/
import Derived.Test.YtomcpgdpjpjioaaOw
import Derived.Test.YtomcpgdpjpjioaaSh
namespace Go.Proofs.Ytomcpgdpjpjioaa
open Go.RowKit Go.Proofs Go.Shelf Go.Sort Go.Lib

def bnd (s : St) : Prop := (0 ≤ s.t ∧ s.t ≤ 1) ∧ 0 ≤ s.n ∧ s.n ≤ 7
/-- A stone with a valid name. -/
structure SN where
  st : St
  ok : bnd st
instance : Inhabited SN := ⟨⟨⟨0, 0, 0, 0⟩, by unfold bnd; decide⟩⟩
def encS (x : SN) : List Value := stC x.1
def kyS (s : St) : Int := s.t * 8 + s.n
def cfS (x y : SN) : Int := kyS x.1 - kyS y.1

set_option maxHeartbeats 1000000 in
theorem closure71 (x y : SN) (W : World) : Calls Try.prog 71 #[.agg (encS x).toArray, .agg (encS y).toArray] W fun e w' => e = .returned (.int .i64 (cfS x y)) ∧ ∃ q os', w' = grow (W.drewN q) os' := by
  obtain ⟨⟨t1, n1, x1, y1⟩, ⟨⟨a1, a2⟩, a3, a4⟩⟩ := x
  obtain ⟨⟨t2, n2, x2, y2⟩, ⟨⟨b1, b2⟩, b3, b4⟩⟩ := y
  simp only at a1 a2 a3 a4 b1 b2 b3 b4
  show Calls Try.prog 71 #[Stv ⟨t1, n1, x1, y1⟩, Stv ⟨t2, n2, x2, y2⟩] W _
  have e : cfS ⟨⟨t1, n1, x1, y1⟩, ⟨⟨a1, a2⟩, a3, a4⟩⟩ ⟨⟨t2, n2, x2, y2⟩, ⟨⟨b1, b2⟩, b3, b4⟩⟩ = (t1 - t2) * 8 + n1 - n2 := by
    show (t1 * 8 + n1) - (t2 * 8 + n2) = _
    omega
  rw [e]
  clear e
  go_enter Try.func71, Try.ntmps71
  go_wp2_with fail
  go_ret
  exact ⟨rfl, 0, _, by rw [alloc_eq_grow, alloc_eq_grow, grow_grow]; rfl⟩
theorem ltS (x y : SN) : ltOf cfS x y = decide (kyS x.1 < kyS y.1) := by
  unfold ltOf cfS
  by_cases h : kyS x.1 < kyS y.1
  · simp [h]; omega
  · simp [h]; omega
theorem swoS : SWO (ltOf cfS) where
  irrefl x := by rw [ltS]; simp
  trans x y z h1 h2 := by rw [ltS] at *; simp at *; omega
  ntrans x y z h1 h2 := by rw [ltS] at *; simp at *; omega
theorem grownBy_sortK {w : World} {g n : Nat} {os : Array Obj} (d : Array SN) : w.grownBy (sortWorldK encS 4 w g 0 n d os) (some g) := by
  refine ⟨rfl, rfl, rfl, by simp [sortWorldK, putRowK, putRow, mapBlock, grow, Sort.ahead], fun k hk hne => ?_⟩
  unfold sortWorldK putRowK
  rw [heap_grow_old _ _ (by simpa [putRow, mapBlock, Sort.ahead] using hk)]
  have : g ≠ k := fun e => hne (by rw [e])
  simp [putRow, mapBlock, Sort.ahead, Array.getElem?_modify, this]
theorem sort70 (g cap : Nat) (d : Array SN) (w : World) (hH : HoldsK encS 4 w g 0 d) (hg : g < w.heap.size) (hsz : d.size ≤ 1000) :
    Calls Try.prog 70 #[.slice (some ⟨g, 0, none⟩) d.size cap, .func (.func 71) #[] #[]] w fun e w' => e = .returned (.tuple #[]) ∧ ∃ d' n os, PermIn 0 d.size d d' ∧ SortedIn (ltOf cfS) 0 d.size d' ∧ w' = sortWorldK encS 4 w g 0 n d' os := by
  have eg : ∀ args w, (callFunc 71 args).run Try.prog w = .ok (.enter 71 args) w := enters_of Try.func71 (by kernel_rfl) rfl
  exact AnyQ.slices_SortFunc Try.sortSt 4 (fun w => by kernel_rfl) (fun w => by kernel_rfl) encS (fun _ => rfl) (fun x v hv => by simp [encS, stC] at hv; rcases hv with rfl | rfl | rfl | rfl <;> rfl) cfS swoS 71 #[] g 0 cap d w eg (fun _ _ _ _ x y => closure71 x y _) hH hg (by omega)
end Go.Proofs.Ytomcpgdpjpjioaa
