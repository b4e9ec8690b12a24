/- The walk by live slots: what is not wanted, in drawn regions. -/
import Derived.Test.YtlfbbofcnonhdaaJa
namespace Go.Proofs.Ytlfbbofcnonhdaa
open Go Go.RowKit Go.Proofs
section
variable {P : Program} {n : Nat} {B : Bs} {l : Sl} {H H0 Hx : List It} {o : Oper} {ops : Array Oper} {Q : Exit → Act → World → Prop} {ld lx : List Nat} {fuel : Nat} {listed : Array Bool}
theorem wn_u {g d : Nat} {b : Bool} (hg : o.guard = some (g, b)) (hd : (ops[g]?).bind (·.dst) = some d) (hv : lk l d = some undef) : WN ops n l o false := fun a ha => by
  have h := ha.get d _ hv
  rw [Array.getD_eq_getD_getElem?] at h
  unfold Region.wanted yielded
  rw [hg]
  simp only [hd, Option.bind_some]
  cases h1 : a.tmps[d]? with
  | none => rfl
  | some u =>
    rw [h1] at h
    simp only [Option.getD_some] at h
    subst h
    cases b <;> rfl
theorem JA_offL {i d : Nat} (hi : ops[i]? = some o) (hd : o.dst = some d) (hs : Region.noSelect ops = true) (hf : Region.free .any ops listed i = true) (hr : (Region.ready .any ops listed).contains i = true) (hlx : lx.contains i = false) (hk : Pk H0 H)
    (hW : WN ops n l o false) (hn : Nat.ble n d = false) (k : JA P n B ops Q ld H0 lx Hx fuel (listed.setIfInBounds i true) ((d, undef) :: l) H) : JA P n B ops Q ld H0 lx Hx (fuel + 1) listed l H := fun a _ ha hw =>
  wpAnyP_takeD0 hi hd hs hf hr (fun _ _ _ h => nq_panic h) (.inr ⟨hW a ha, rfl⟩) ⟨fun _ => hw.pick hk, (fun h => by rw [hlx] at h; cases h)⟩ (k _ _ (ha.put d undef hn) hw)
theorem JA_offX {i d : Nat} (hi : ops[i]? = some o) (hd : o.dst = some d) (hs : Region.noSelect ops = true) (hf : Region.free .any ops listed i = true) (hr : (Region.ready .any ops listed).contains i = true) (hl : ld.contains i = false) (hk : Pk Hx H)
    (hW : WN ops n l o false) (hn : Nat.ble n d = false) (k : JA P n B ops Q ld H0 lx Hx fuel (listed.setIfInBounds i true) ((d, undef) :: l) H) : JA P n B ops Q ld H0 lx Hx (fuel + 1) listed l H := fun a _ ha hw =>
  wpAnyP_takeD0 hi hd hs hf hr (fun _ _ _ h => nq_panic h) (.inr ⟨hW a ha, rfl⟩) ⟨(fun h => by rw [hl] at h; cases h), fun _ => hw.pick hk⟩ (k _ _ (ha.put d undef hn) hw)
end
end Go.Proofs.Ytlfbbofcnonhdaa
