/- A region that draws its order, walked in a round of a range over a function: an operation that reads may be taken first, if what it reads is kept by all that may come before it. Over any program. (The kit's laws of held reads, with a condition for each read.) -/
import Derived.OrdersHeld
import Derived.OrdersIn
import Derived.TacticsIn
import Derived.OwnWalkIn
namespace Go.Proofs.Ytlfbbofcnonhdaa
open Go Go.RowKit Go.Proofs

section
variable {P : Program} {ops : Array Oper} {Q : Exit → Act → World → Prop} {md : Region.Mode} {S : Nat → World → Prop}

/-- Number j does not wait for number i itself. -/
def frB (md : Region.Mode) (ops : Array Oper) (j i : Nat) : Bool := match ops[j]? with | some o => o.after.toList.all (fun e => !(Region.binds md e) || e.on != i) | none => true
theorem frB_of {j i : Nat} {o : Oper} (hj : ops[j]? = some o) (h : ∀ e ∈ o.after, Region.binds md e = true → e.on ≠ i) : frB md ops j i = true := by
 unfold frB; rw [hj]
 simp only [List.all_eq_true]
 intro e he'
 have he : e ∈ o.after := Array.mem_toList_iff.1 he'
 cases hb : Region.binds md e
 ·rfl
 ·simpa using h e he hb

def wpAnyP (P : Program) (md : Region.Mode) (ops : Array Oper) (Q : Exit → Act → World → Prop) (S : Nat → World → Prop) : Nat → Array Bool → Act → World → Prop
 | 0, listed, a, w => Region.ready md ops listed = [] ∧ Q .normal a w
 | fuel + 1, listed, a, w =>
  (Region.ready md ops listed = [] → Q .normal a w) ∧
  ∀ j ∈ Region.ready md ops listed, wpOp P ops Q j (fun a' w' => (∀ i, frB md ops j i = true → S i w → S i w') ∧ wpAnyP P md ops Q S fuel (listed.setIfInBounds j true) a' w') a w
theorem wpAny_of_P : ∀ (fuel : Nat) (listed : Array Bool) (a : Act) (w : World), wpAnyP P md ops Q S fuel listed a w → wpAny P md ops Q fuel listed a w
 | 0, _, _, _, h => h
 | fuel + 1, _, _, _, h => ⟨h.1, fun i hi => wpOp_mono (fun a' w' h' => wpAny_of_P fuel _ a' w' h'.2) (h.2 i hi)⟩

theorem wpAnyP_first {i : Nat} {oi : Oper} {v : Value} (hi : ops[i]? = some oi) (hsel : ∀ (j : Nat) (o : Oper) cs b, ops[j]? = some o → o.op ≠ .select cs b)
  (hQ : ∀ c a w, Q (.panic c) (a.put oi.dst v) w → Q (.panic c) a w) :
  ∀ (fuel : Nat) (listed : Array Bool) (a : Act) (w : World),
   (∀ j oj, ops[j]? = some oj → j ≠ i → listed.getD j true = false → (∀ e ∈ oj.after, Region.binds md e = true → e.on ≠ i) → oi.apart ops oj = true) →
   i ∈ Region.ready md ops listed → YieldsIf P ops (S i) oi v a → S i w →
   wpAnyP P md ops Q S fuel (listed.setIfInBounds i true) (a.put oi.dst v) w → wpAnyP P md ops Q S (fuel + 1) listed a w := by
 intro fuel
 induction fuel with
 | zero =>
  intro listed a w _ hr hy hS H
  refine ⟨fun h => (by rw [h] at hr; cases hr), fun j hj => ?_⟩
  by_cases hji : j = i
  ·subst hji; exact hy.wpOp hi hS ⟨fun _ _ h => h, H⟩
  ·have := ready_mono hj hji
   rw [H.1] at this
   cases this
 | succ fuel ih =>
  intro listed a w hfree hr hy hS H
  refine ⟨fun h => (by rw [h] at hr; cases hr), fun j hj => ?_⟩
  by_cases hji : j = i
  ·subst hji; exact hy.wpOp hi hS ⟨fun _ _ h => h, H⟩
  ·have h1 := H.2 j (ready_mono hj hji)
   obtain ⟨hjun, oj, hoj, hall⟩ := mem_ready.1 hj
   have hnot : ∀ e ∈ oj.after, Region.binds md e = true → e.on ≠ i := fun e he hb heq => by
    have h1 := hall e he hb
    have h0 := (mem_ready.1 hr).1
    rw [heq] at h1
    rcases Nat.lt_or_ge i listed.size with h' | h'
    ·simp [h'] at h0 h1; rw [h0] at h1; cases h1
    ·simp [Array.getElem?_eq_none h'] at h1
   have h2 := wpOp_putIf hoj (hfree j oj hoj hji hjun hnot) (fun cs b => hsel i oi cs b hi) (fun cs b => hsel j oj cs b hoj) hQ hy h1
   have hfree' : ∀ k ok, ops[k]? = some ok → k ≠ i → (listed.setIfInBounds j true).getD k true = false →
     (∀ e ∈ ok.after, Region.binds md e = true → e.on ≠ i) → oi.apart ops ok = true := fun k ok hk hki hun hno => by
    refine hfree k ok hk hki ?_ hno
    by_cases hjk : j = k
    ·subst hjk; exact hjun
    ·rw [getD_set_ne true hjk] at hun; exact hun
   refine wpOp_mono (fun a' w' h3 => ⟨h3.2.1, ih (listed.setIfInBounds j true) a' w' hfree' (ready_mono hr (Ne.symm hji)) h3.1 (h3.2.1 i (frB_of hoj hnot) hS) ?_⟩) h2
   rw [Array.setIfInBounds_comm _ _ hji]
   exact h3.2.2

/-- Take number i first. -/
theorem wpAnyP_take {i : Nat} {oi : Oper} {v : Value} {fuel : Nat} {listed : Array Bool} {a : Act} {w : World} (hi : ops[i]? = some oi)
  (hs : Region.noSelect ops = true) (hf : Region.free md ops listed i = true) (hr : (Region.ready md ops listed).contains i = true)
  (hQ : ∀ c a w, Q (.panic c) (a.put oi.dst v) w → Q (.panic c) a w) (hy : YieldsIf P ops (S i) oi v a) (hS : S i w)
  (h : wpAnyP P md ops Q S fuel (listed.setIfInBounds i true) (a.put oi.dst v) w) : wpAnyP P md ops Q S (fuel + 1) listed a w :=
 wpAnyP_first hi (Region.noSelect_spec hs) hQ fuel listed a w (Region.free_spec hi hf) (by simpa using hr) hy hS h
/-- Only number i may come up. -/
theorem wpAnyP_one {i : Nat} {fuel : Nat} {listed : Array Bool} {a : Act} {w : World} (hr : Region.ready md ops listed = [i])
  (h : wpOp P ops Q i (fun a' w' => (∀ k, frB md ops i k = true → S k w → S k w') ∧ wpAnyP P md ops Q S fuel (listed.setIfInBounds i true) a' w') a w) : wpAnyP P md ops Q S (fuel + 1) listed a w :=
 ⟨fun h0 => by (rw [hr] at h0; cases h0), fun j hj => by
  rw [hr, List.mem_singleton] at hj; subst hj; exact h⟩
theorem wpAnyP_done {listed : Array Bool} {a : Act} {w : World} (hr : Region.ready md ops listed = []) (h : Q .normal a w) : ∀ fuel, wpAnyP P md ops Q S fuel listed a w
 | 0 => ⟨hr, h⟩
 | _ + 1 => ⟨fun _ => h, by rw [hr]; simp⟩
/-- An operation that runs. -/
theorem wpOp_run {i : Nat} {o : Oper} {a : Act} {w w' : World} {v : Value} {K : Act → World → Prop} (hi : ops[i]? = some o) (hg : o.guard = none)
  (hrun : (execOp a.eval o).run P w = .ok (.value v) w') (h : K (a.put o.dst v) w') : wpOp P ops Q i K a w := by
 unfold wpOp
 have hw : Region.wanted o (yielded ops a.tmps) = true := by simp [Region.wanted, hg]
 simp only [hi, hw, if_true, Oper.wp, hrun, Oper.upon]
 exact .inl h
theorem wpOp_skip {i : Nat} {o : Oper} {a : Act} {w w' : World} {K : Act → World → Prop} (hi : ops[i]? = some o) (hg : o.guard = none)
  (hrun : (execOp a.eval o).run P w = .ok .skip w') (h : K (a.put o.dst undef) w') : wpOp P ops Q i K a w := by
 unfold wpOp
 have hw : Region.wanted o (yielded ops a.tmps) = true := by simp [Region.wanted, hg]
 simp only [hi, hw, if_true, Oper.wp, hrun, Oper.upon]
 exact .inl h
theorem yieldsIf_run {S : World → Prop} {o : Oper} {v : Value} {a : Act} (hg : o.guard = none) (h : ∀ w, S w → (execOp a.eval o).run P w = .ok (.value v) w) : YieldsIf P ops S o v a :=
 .inl ⟨by simp [Region.wanted, hg], h⟩

/-- No operation of the region defers. -/
def noDefer (ops : Array Oper) : Bool := ops.all fun o => match o.op with | .defer _ => false | _ => true
theorem wpOpIn_of {l n i : Nat} {K : Act → World → Prop} {a : Act} {w : World} (hd : noDefer ops = true) (hlet : ¬ LetsOut Q) (h : wpOp P ops Q i K a w) : wpOpIn (Fence.wide.inRound l) n P ops Q i K a w := by
 unfold wpOp at h
 unfold wpOpIn
 cases ho : ops[i]? with
 | none => simp only [ho] at h ⊢; exact h
 | some o =>
  simp only [ho] at h ⊢
  have hnd : ∀ c, o.op ≠ .defer c := by
   intro c hc
   unfold noDefer at hd
   have hm := Array.mem_of_getElem? ho
   have := (Array.all_eq_true'.1 hd) o hm
   rw [hc] at this
   cases this
  split
  ·rename_i hw
   rw [if_pos hw] at h
   rcases h with h | ⟨-, h⟩
   ·unfold Oper.wpIn
    refine ⟨fun _ _ => trivial, ?_⟩
    rw [Oper.semAt_plain _ _ _ hnd]
    unfold Oper.wp at h
    generalize (execOp a.eval o).run P w = r at h ⊢
    cases r with
    | ok x w' =>
     cases x <;> simp only [Oper.upon, Oper.uponIn] at h ⊢
     case value => exact h
     case skip => exact h
     case defer => exact h
     case enter => exact ⟨fun h => (by cases h), (callsIn_wide (n := n - 1)).2 h⟩
     case row => exact ⟨fun h => (by cases h), fun c cs _ => let ⟨v, w2, r, s⟩ := h c cs; ⟨v, w2, r, stepsIn_wide.2 s⟩⟩
    | halt x w' => cases x <;> simp only [Oper.upon, Oper.uponIn] at h ⊢ <;> exact h
   ·exact absurd h hlet
  ·rename_i hw
   rw [if_neg hw] at h
   exact ⟨fun _ _ => trivial, h⟩
theorem wpAnyIn_of {l n : Nat} (hd : noDefer ops = true) (hlet : ¬ LetsOut Q) : ∀ (fuel : Nat) (listed : Array Bool) (a : Act) (w : World), wpAny P md ops Q fuel listed a w → wpAnyIn (Fence.wide.inRound l) n P md ops Q fuel listed a w
 | 0, _, _, _, h => h
 | fuel + 1, _, _, _, h => ⟨h.1, fun i hi => wpOpIn_of hd hlet (wpOp_mono (fun a' w' h' => wpAnyIn_of hd hlet fuel _ a' w' h') (h.2 i hi))⟩
theorem wpIn_region_P {l n id : Nat} {a : Act} {w : World} (S : Nat → World → Prop) (hm : P.follows .mixedOrders = true) (hd : noDefer ops = true) (hlet : ¬ LetsOut Q)
  (h : wpAnyP P .any ops Q S ops.size (Array.replicate ops.size false) a w.drew) : (Code.region id ops true).wpIn (Fence.wide.inRound l) n P Q a w :=
 wpIn_region_any hm (wpAnyIn_of hd hlet _ _ _ _ (wpAny_of_P _ _ _ _ h))
theorem wpOpW_of {n i : Nat} {K : Act → World → Prop} {a : Act} {w : World} (hd : noDefer ops = true) (hlet : ¬ LetsOut Q) (h : wpOp P ops Q i K a w) : wpOpIn Fence.wide n P ops Q i K a w := by
 unfold wpOp at h
 unfold wpOpIn
 cases ho : ops[i]? with
 | none => simp only [ho] at h ⊢; exact h
 | some o =>
  simp only [ho] at h ⊢
  have hnd : ∀ c, o.op ≠ .defer c := by
   intro c hc
   unfold noDefer at hd
   have hm := Array.mem_of_getElem? ho
   have := (Array.all_eq_true'.1 hd) o hm
   rw [hc] at this
   cases this
  split
  ·rename_i hw
   rw [if_pos hw] at h
   rcases h with h | ⟨-, h⟩
   ·unfold Oper.wpIn
    refine ⟨fun _ _ => trivial, ?_⟩
    rw [Oper.semAt_plain _ _ _ hnd]
    unfold Oper.wp at h
    generalize (execOp a.eval o).run P w = r at h ⊢
    cases r with
    | ok x w' =>
     cases x <;> simp only [Oper.upon, Oper.uponIn] at h ⊢
     case value => exact h
     case skip => exact h
     case defer => exact h
     case enter => exact ⟨fun h => (by cases h), (callsIn_wide (n := n - 1)).2 h⟩
     case row => exact ⟨fun h => (by cases h), fun c cs _ => let ⟨v, w2, r, s⟩ := h c cs; ⟨v, w2, r, stepsIn_wide.2 s⟩⟩
    | halt x w' => cases x <;> simp only [Oper.upon, Oper.uponIn] at h ⊢ <;> exact h
   ·exact absurd h hlet
  ·rename_i hw
   rw [if_neg hw] at h
   exact ⟨fun _ _ => trivial, h⟩
theorem wpAnyW_of {n : Nat} (hd : noDefer ops = true) (hlet : ¬ LetsOut Q) : ∀ (fuel : Nat) (listed : Array Bool) (a : Act) (w : World), wpAny P md ops Q fuel listed a w → wpAnyIn Fence.wide n P md ops Q fuel listed a w
 | 0, _, _, _, h => h
 | fuel + 1, _, _, _, h => ⟨h.1, fun i hi => wpOpW_of hd hlet (wpOp_mono (fun a' w' h' => wpAnyW_of hd hlet fuel _ a' w' h') (h.2 i hi))⟩
theorem wpW_region_P {n id : Nat} {a : Act} {w : World} (S : Nat → World → Prop) (hm : P.follows .mixedOrders = true) (hd : noDefer ops = true) (hlet : ¬ LetsOut Q)
  (h : wpAnyP P .any ops Q S ops.size (Array.replicate ops.size false) a w.drew) : (Code.region id ops true).wpIn Fence.wide n P Q a w :=
 wpIn_region_any hm (wpAnyW_of hd hlet _ _ _ _ (wpAny_of_P _ _ _ _ h))
end
section
variable {P : Program} {ops : Array Oper} {Q : Exit → Act → World → Prop} {md : Region.Mode} {S : Nat → World → Prop}
theorem wp_region_P {id : Nat} {a : Act} {w : World} (S : Nat → World → Prop) (hm : P.follows .mixedOrders = true)
  (h : wpAnyP P .any ops Q S ops.size (Array.replicate ops.size false) a w.drew) : (Code.region id ops true).wp P Q a w :=
 wp_region_any hm (wpAny_of_P _ _ _ _ h)
/-- An operation that calls. -/
theorem wpOp_call {i : Nat} {o : Oper} {a : Act} {w : World} {f : FuncId} {args : Array Value} {K : Act → World → Prop} (hi : ops[i]? = some o) (hg : o.guard = none)
  (hrun : (execOp a.eval o).run P w = .ok (.enter f args) w) (h : Calls P f args w fun e w' => ∃ v, e = .returned v ∧ K (a.put o.dst v) w') : wpOp P ops Q i K a w := by
 unfold wpOp
 have hw : Region.wanted o (yielded ops a.tmps) = true := by simp [Region.wanted, hg]
 simp only [hi, hw, if_true, Oper.wp, hrun, Oper.upon]
 exact .inl (h.mono fun e w' ⟨v, he, hk⟩ => by subst he; exact hk)
/-- Two of them may come up. -/
theorem wpAnyP_two {i j : Nat} {fuel : Nat} {listed : Array Bool} {a : Act} {w : World} (hr : Region.ready md ops listed = [i, j])
  (h1 : wpOp P ops Q i (fun a' w' => (∀ k, frB md ops i k = true → S k w → S k w') ∧ wpAnyP P md ops Q S fuel (listed.setIfInBounds i true) a' w') a w)
  (h2 : wpOp P ops Q j (fun a' w' => (∀ k, frB md ops j k = true → S k w → S k w') ∧ wpAnyP P md ops Q S fuel (listed.setIfInBounds j true) a' w') a w) : wpAnyP P md ops Q S (fuel + 1) listed a w :=
 ⟨fun h0 => by (rw [hr] at h0; cases h0), fun k hk => by
  rw [hr] at hk
  simp only [List.mem_cons, List.not_mem_nil, or_false] at hk
  rcases hk with rfl | rfl
  ·exact h1
  ·exact h2⟩
end

section
variable {P : Program} {ops : Array Oper} {Q : Exit → Act → World → Prop} {md : Region.Mode} {S : Nat → World → Prop}
theorem wpOp_callG {i : Nat} {o : Oper} {a : Act} {w : World} {f : FuncId} {args : Array Value} {K : Act → World → Prop} (hi : ops[i]? = some o) (hw : Region.wanted o (yielded ops a.tmps) = true)
  (hrun : (execOp a.eval o).run P w = .ok (.enter f args) w) (h : Calls P f args w fun e w' => ∃ v, e = .returned v ∧ K (a.put o.dst v) w') : wpOp P ops Q i K a w := by
 unfold wpOp
 simp only [hi, hw, if_true, Oper.wp, hrun, Oper.upon]
 exact .inl (h.mono fun e w' ⟨v, he, hk⟩ => by subst he; exact hk)
theorem wpOp_runG {i : Nat} {o : Oper} {a : Act} {w w' : World} {v : Value} {K : Act → World → Prop} (hi : ops[i]? = some o) (hw : Region.wanted o (yielded ops a.tmps) = true)
  (hrun : (execOp a.eval o).run P w = .ok (.value v) w') (h : K (a.put o.dst v) w') : wpOp P ops Q i K a w := by
 unfold wpOp
 simp only [hi, hw, if_true, Oper.wp, hrun, Oper.upon]
 exact .inl h
theorem yieldsIf_runG {S : World → Prop} {o : Oper} {v : Value} {a : Act} (hw : Region.wanted o (yielded ops a.tmps) = true) (h : ∀ w, S w → (execOp a.eval o).run P w = .ok (.value v) w) : YieldsIf P ops S o v a :=
 .inl ⟨hw, h⟩
end

section
variable {P : Program} {ops : Array Oper} {Q : Exit → Act → World → Prop} {md : Region.Mode} {S : Nat → World → Prop}
/-- Three of them may come up. -/
theorem wpAnyP_three {i j k : Nat} {fuel : Nat} {listed : Array Bool} {a : Act} {w : World} (hr : Region.ready md ops listed = [i, j, k])
  (h1 : wpOp P ops Q i (fun a' w' => (∀ k, frB md ops i k = true → S k w → S k w') ∧ wpAnyP P md ops Q S fuel (listed.setIfInBounds i true) a' w') a w)
  (h2 : wpOp P ops Q j (fun a' w' => (∀ k, frB md ops j k = true → S k w → S k w') ∧ wpAnyP P md ops Q S fuel (listed.setIfInBounds j true) a' w') a w)
  (h3 : wpOp P ops Q k (fun a' w' => (∀ m, frB md ops k m = true → S m w → S m w') ∧ wpAnyP P md ops Q S fuel (listed.setIfInBounds k true) a' w') a w) : wpAnyP P md ops Q S (fuel + 1) listed a w :=
 ⟨fun h0 => by (rw [hr] at h0; cases h0), fun m hm => by
  rw [hr] at hm
  simp only [List.mem_cons, List.not_mem_nil, or_false] at hm
  rcases hm with rfl | rfl | rfl
  ·exact h1
  ·exact h2
  ·exact h3⟩
/-- An operation that never ends the region: its other ends may be any. -/
theorem wpOp_ends {Q' : Exit → Act → World → Prop} (hq : ∀ e a w, Q' e a w → Q e a w) {i : Nat} {K : Act → World → Prop} {a : Act} {w : World} (h : wpOp P ops Q' i K a w) : wpOp P ops Q i K a w := by
 unfold wpOp at h ⊢
 cases ho : ops[i]? with
 | none => simp only [ho] at h ⊢; exact h
 | some o =>
  simp only [ho] at h ⊢
  split
  ·rename_i hw
   rw [if_pos hw] at h
   have hl : LetsOut Q' → LetsOut Q := fun ⟨a, w, h⟩ => ⟨a, w, hq _ _ _ h⟩
   refine h.imp (fun h => ?_) (fun h => ⟨h.1, hl h.2⟩)
   unfold Oper.wp at h ⊢
   generalize (execOp a.eval o).run P w = r at h ⊢
   cases r with
   | ok x w' =>
    cases x <;> simp only [Oper.upon] at h ⊢
    case value => exact h
    case skip => exact h
    case defer => exact h
    case enter =>
     refine h.mono ?_
     intro e w'' h
     cases e with
     | returned v => exact h
     | panicked c => exact hq _ _ _ h
     | outgrown => exact hl h
    case row => exact h
   | halt x w' => cases x <;> simp only [Oper.upon] at h ⊢ <;> first | exact hq _ _ _ h | exact h
  ·rename_i hw
   rw [if_neg hw] at h
   exact h
theorem wpAnyP_ends {Q' : Exit → Act → World → Prop} (hq : ∀ e a w, Q' e a w → Q e a w) : ∀ (fuel : Nat) (listed : Array Bool) (a : Act) (w : World), wpAnyP P md ops Q' S fuel listed a w → wpAnyP P md ops Q S fuel listed a w
 | 0, _, _, _, h => ⟨h.1, hq _ _ _ h.2⟩
 | fuel + 1, _, _, _, h => ⟨fun hr => hq _ _ _ (h.1 hr), fun j hj => wpOp_ends hq (wpOp_mono (fun a' w' h' => ⟨h'.1, wpAnyP_ends hq fuel _ a' w' h'.2⟩) (h.2 j hj))⟩
/-- A cut behind a region: it ends normally, with this frame (of three values), and what is known. -/
def CutQ {T : Type} (F : T → Act) (K : T → World → Prop) (e : Exit) (a : Act) (w : World) : Prop := e = .normal ∧ ∃ t, a = F t ∧ K t w
theorem wpAnyP_cut {T : Type} {fuel : Nat} {listed : Array Bool} {a : Act} {w : World} (F : Act → T → Act) (K : T → World → Prop)
  (h1 : wpAnyP P md ops (CutQ (F a) K) S fuel listed a w) (h2 : ∀ t w', K t w' → Q .normal (F a t) w') : wpAnyP P md ops Q S fuel listed a w :=
 wpAnyP_ends (fun e a' w' ⟨he, t, ha, hk⟩ => by subst he ha; exact h2 t w' hk) _ _ _ _ h1
theorem put_comm (a : Act) {i j : Nat} (h : i ≠ j) (v u : Value) : (a.put (some i) v).put (some j) u = (a.put (some j) u).put (some i) v := by
 unfold Act.put
 simp only
 rw [Array.setIfInBounds_comm _ _ h]
/-- Three variables of one type, made in whatever order. -/
theorem wpAnyP_allocs3 {i j k di dj dk : Nat} {oi oj ok : Oper} {o : Obj} {fuel : Nat} {listed : Array Bool} {a : Act} {w : World}
  (hi : ops[i]? = some oi) (hj : ops[j]? = some oj) (hk : ops[k]? = some ok) (gi : oi.guard = none) (gj : oj.guard = none) (gk : ok.guard = none) (ei : oi.dst = some di) (ej : oj.dst = some dj) (ek : ok.dst = some dk)
  (ri : ∀ (a : Act) w, (execOp a.eval oi).run P w = .ok (.value (.pointer (some ⟨w.heap.size, 0, none⟩))) (w.alloc o))
  (rj : ∀ (a : Act) w, (execOp a.eval oj).run P w = .ok (.value (.pointer (some ⟨w.heap.size, 0, none⟩))) (w.alloc o))
  (rk : ∀ (a : Act) w, (execOp a.eval ok).run P w = .ok (.value (.pointer (some ⟨w.heap.size, 0, none⟩))) (w.alloc o))
  (r0 : Region.ready md ops listed = [i, j, k]) (r1 : Region.ready md ops (listed.setIfInBounds i true) = [j, k]) (r2 : Region.ready md ops (listed.setIfInBounds j true) = [i, k]) (r3 : Region.ready md ops (listed.setIfInBounds k true) = [i, j])
  (r12 : Region.ready md ops ((listed.setIfInBounds i true).setIfInBounds j true) = [k]) (r13 : Region.ready md ops ((listed.setIfInBounds i true).setIfInBounds k true) = [j]) (r23 : Region.ready md ops ((listed.setIfInBounds j true).setIfInBounds k true) = [i])
  (nij : i ≠ j) (nik : i ≠ k) (njk : j ≠ k) (dij : di ≠ dj) (dik : di ≠ dk) (djk : dj ≠ dk)
  (hS : ∀ m w, S m w → S m (w.alloc o))
  (H : ∀ p q r, p ≠ q → p ≠ r → q ≠ r → (w.heap.size ≤ p ∧ p < w.heap.size + 3) → (w.heap.size ≤ q ∧ q < w.heap.size + 3) → (w.heap.size ≤ r ∧ r < w.heap.size + 3) →
   wpAnyP P md ops Q S fuel (((listed.setIfInBounds i true).setIfInBounds j true).setIfInBounds k true) (((a.put (some di) (.pointer (some ⟨p, 0, none⟩))).put (some dj) (.pointer (some ⟨q, 0, none⟩))).put (some dk) (.pointer (some ⟨r, 0, none⟩))) (((w.alloc o).alloc o).alloc o)) :
  wpAnyP P md ops Q S (fuel + 3) listed a w := by
 have z1 : (w.alloc o).heap.size = w.heap.size + 1 := by simp
 have z2 : ((w.alloc o).alloc o).heap.size = w.heap.size + 2 := by simp
 have hs : ∀ m w', (∀ l, frB md ops m l = true → S l w' → S l (w'.alloc o)) := fun _ w' l _ h => hS l w' h
 refine wpAnyP_three (i := i) (j := j) (k := k) r0 (wpOp_run hi gi (ri a w) ⟨hs i _, ?_⟩) (wpOp_run hj gj (rj a w) ⟨hs j _, ?_⟩) (wpOp_run hk gk (rk a w) ⟨hs k _, ?_⟩)
 ·refine wpAnyP_two r1 (wpOp_run hj gj (rj _ _) ⟨hs j _, ?_⟩) (wpOp_run hk gk (rk _ _) ⟨hs k _, ?_⟩)
  ·refine wpAnyP_one r12 (wpOp_run hk gk (rk _ _) ⟨hs k _, ?_⟩)
   rw [ei, ej, ek, z1, z2]
   exact H _ _ _ (by omega) (by omega) (by omega) (by omega) (by omega) (by omega)
  ·refine wpAnyP_one r13 (wpOp_run hj gj (rj _ _) ⟨hs j _, ?_⟩)
   rw [ei, ej, ek, z1, z2, put_comm _ (Ne.symm djk), Array.setIfInBounds_comm _ _ (Ne.symm njk)]
   exact H _ _ _ (by omega) (by omega) (by omega) (by omega) (by omega) (by omega)
 ·refine wpAnyP_two r2 (wpOp_run hi gi (ri _ _) ⟨hs i _, ?_⟩) (wpOp_run hk gk (rk _ _) ⟨hs k _, ?_⟩)
  ·rw [Array.setIfInBounds_comm _ _ (Ne.symm nij)]
   refine wpAnyP_one r12 (wpOp_run hk gk (rk _ _) ⟨hs k _, ?_⟩)
   rw [ei, ej, ek, z1, z2, put_comm a (Ne.symm dij)]
   exact H _ _ _ (by omega) (by omega) (by omega) (by omega) (by omega) (by omega)
  ·refine wpAnyP_one r23 (wpOp_run hi gi (ri _ _) ⟨hs i _, ?_⟩)
   rw [ei, ej, ek, z1, z2, put_comm _ (Ne.symm dik), put_comm a (Ne.symm dij), Array.setIfInBounds_comm _ _ (Ne.symm nik), Array.setIfInBounds_comm (xs := listed) _ _ (Ne.symm nij)]
   exact H _ _ _ (by omega) (by omega) (by omega) (by omega) (by omega) (by omega)
 ·refine wpAnyP_two r3 (wpOp_run hi gi (ri _ _) ⟨hs i _, ?_⟩) (wpOp_run hj gj (rj _ _) ⟨hs j _, ?_⟩)
  ·rw [Array.setIfInBounds_comm _ _ (Ne.symm nik)]
   refine wpAnyP_one r13 (wpOp_run hj gj (rj _ _) ⟨hs j _, ?_⟩)
   rw [ei, ej, ek, z1, z2, put_comm a (Ne.symm dik), put_comm _ (Ne.symm djk), Array.setIfInBounds_comm _ _ (Ne.symm njk)]
   exact H _ _ _ (by omega) (by omega) (by omega) (by omega) (by omega) (by omega)
  ·rw [Array.setIfInBounds_comm _ _ (Ne.symm njk)]
   refine wpAnyP_one r23 (wpOp_run hi gi (ri _ _) ⟨hs i _, ?_⟩)
   rw [ei, ej, ek, z1, z2, put_comm a (Ne.symm djk), put_comm _ (Ne.symm dik), put_comm a (Ne.symm dij), Array.setIfInBounds_comm _ _ (Ne.symm nik), Array.setIfInBounds_comm (xs := listed) _ _ (Ne.symm nij)]
   exact H _ _ _ (by omega) (by omega) (by omega) (by omega) (by omega) (by omega)
end
section
variable {P : Program} {ops : Array Oper} {Q : Exit → Act → World → Prop}
/-- The region ends normally. -/
def NQ (Q : Exit → Act → World → Prop) (e : Exit) (a : Act) (w : World) : Prop := e = .normal ∧ Q .normal a w
theorem nq_panic {c} {a a' : Act} {w : World} (h : NQ Q (.panic c) a w) : NQ Q (.panic c) a' w := nomatch h.1
theorem nq_let : ¬ LetsOut (NQ Q) := fun ⟨_, _, h⟩ => nomatch h.1
theorem wpW_region_N {n id : Nat} {a : Act} {w : World} (S : Nat → World → Prop) (hm : P.follows .mixedOrders = true) (hd : noDefer ops = true)
  (h : wpAnyP P .any ops (NQ Q) S ops.size (Array.replicate ops.size false) a w.drew) : (Code.region id ops true).wpIn Fence.wide n P Q a w :=
 wpIn_mono (wpW_region_P S hm hd nq_let h) (fun e a w h => by obtain ⟨rfl, h⟩ := h; exact h)
theorem wpR_region_N {l n id : Nat} {a : Act} {w : World} (S : Nat → World → Prop) (hm : P.follows .mixedOrders = true) (hd : noDefer ops = true)
  (h : wpAnyP P .any ops (NQ Q) S ops.size (Array.replicate ops.size false) a w.drew) : (Code.region id ops true).wpIn (Fence.wide.inRound l) n P Q a w :=
 wpIn_mono (wpIn_region_P S hm hd nq_let h) (fun e a w h => by obtain ⟨rfl, h⟩ := h; exact h)
end
end Go.Proofs.Ytlfbbofcnonhdaa
