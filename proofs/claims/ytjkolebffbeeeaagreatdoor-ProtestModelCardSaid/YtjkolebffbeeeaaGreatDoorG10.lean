import Derived.Test.YtjkolebffbeeeaaGreatDoorG9
import Derived.Recover
/- Calls that are put off; recover. Over any program. -/
namespace Go.Proofs.YtjkolebffbeeeaaGreatDoor
open Go Go.RowKit Go.Proofs Go.Shelf
attribute [local go_sem] Oper.semAt_some
section
variable {P : Program} {n : Nat} {B : Bs} {Q : Exit → Act → World → Prop} {l : Sl} {H H' : List It} {c : Code} {w w' : World} {ops : Array Oper} {rest : List Oper} {o : Oper} {a : Act}
abbrev later (f : FuncId) (caps : Array Value) : Deferred := { target := .fn (.func f) caps, args := #[] }
/-- A statement 'defer f()'. -/
theorem aDefer {f : FuncId} {caps : Array Value} {g : Operand} {ts : Array TypeId} (k : JL P n ⟨B.w, B.m, B.r, later f caps :: B.d⟩ ops Q rest l H) (ho : o.op = .defer { callee := .value g, args := #[], argTypes := ts } := by rfl) (hg : evl l g = some (.func (.func f) #[] caps) := by rfl) (hd : o.dst = none := by rfl) (hW : WN ops n l o true := by exact wAny) : JL P n B ops Q (o :: rest) l H := fun a w ha hw =>
 wpList_step (fun K hK => by
  rw [if_pos (hW.D ha)]
  unfold Oper.wp
  have hr : (execOp (B.df a).eval o).run P w = .ok (.defer (later f caps)) w := by
   unfold execOp; rw [ho]
   simp only [resolve, ha.evD hg]
   simp [go_sem]
  rw [hr]
  show K (Act.put { B.df a with defers := later f caps :: B.d } o.dst undef) w
  rw [hd]
  exact hK _ _ (k a w ha (hw.re _ _)))
theorem J.wp (h : J P n B c Q l H) (ha : Fr n l a) (hw : Wd B H w) (hr : B.r = none := by rfl) : c.wp P Q (B.df a) w := by
 have h1 := h a w ha hw
 unfold Wp at h1
 rw [hr] at h1
 exact wp_mono (wpIn_wide.1 (h1 0)) (NO.imp (fun _ _ _ _ h => h))
theorem J.wp0 (h : J P n B c Q l H) (ha : Fr n l a) (hw : Wd B H w) (hr : B.r = none := by rfl) (hd : B.d = [] := by rfl) : c.wp P Q a w := by
 have h1 := h.wp ha hw hr
 have e : B.df a = a := by
  have := ha.defers
  cases a; simp only [Bs.df, hd] at this ⊢; rw [this]
 rw [e] at h1
 exact h1
theorem JQ_of {e : Exit} (h : ∀ a w, Fr n l a → Wd B H w → Q e (B.df a) w) : JQ n B Q e l H := h
theorem J_startD {f : FuncId} {fn : Func} {args : Array Value} {w : World} {R : Ending → World → Prop} (hr : B.r = none) (hd : B.d = []) {vs : List Value} {k : Nat} (hf : P.funcs[f]? = some fn) (hb : fn.body = some c) (ha : args = vs.toArray) (hn : fn.ntmps = n) (hk : vs.length + k = n) (hl : en 0 vs = l)
  (hH : Wd B H w) (h : J P n B c (bodyPostD P fn R) l H) : Calls P f args w R := by
 subst ha hl
 refine calls_of_wp_defers hf hb ?_
 have e : fn.ntmps - vs.toArray.size = k := by simp; omega
 rw [e]
 have h1 := h.wp (a := { tmps := vs.toArray ++ Array.replicate k undef, defers := [] }) (by rw [← hk]; exact Fr.start vs k) hH hr
 have e2 : B.df { tmps := vs.toArray ++ Array.replicate k undef, defers := [] } = { tmps := vs.toArray ++ Array.replicate k undef, defers := [] } := by unfold Bs.df; rw [hd]
 rw [e2] at h1
 exact h1
/-- The end of a function with one call that was put off. -/
theorem JR_leave {fn : Func} {R : Ending → World → Prop} {f : FuncId} {caps : Array Value} {r s : ResultVar} {v u : Value} {md : FrameMode} (hcf : ∀ args w, (callFunc f args).run P w = .ok (.enter f args) w) (hm : md ≠ .run) (hcatch : ∀ w, Wd B H w → CallsD P f caps md w (fun e u' w' => e = .returned (.tuple #[]) ∧ settle u' = .returning ∧ Wd B H' w'))
  (hr : fn.results = #[r, s]) (h1 : RR P n B l H' r v) (h2 : RR P n B l H' s u) (hR : ∀ w, Wd B H' w → R (.returned (.tuple #[v, u])) w) (ha : Fr n l a) (hw : Wd B H w) : Leaves P fn a.tmps R [later f caps] md w := by
 refine leaves_cons (f := f) (args := caps) hm (by simp [invoke, hcf]) ((hcatch w hw).mono ?_)
 rintro e u' w' ⟨rfl, hs, hw'⟩
 show Leaves P fn a.tmps R [] (settle u') w'
 rw [hs]
 refine ⟨.tuple #[v, u], ?_, hR w' hw'⟩
 have h1 := h1 a w' ha hw'
 have h2 := h2 a w' ha hw'
 rw [results_rvS, hr]
 simp [h1, h2]
/-- Two items as one. -/
def unI (A C : It) : It where
 foot b := A.foot b ∨ C.foot b
 holds w := A.holds w ∧ C.holds w ∧ ∀ b, A.foot b → C.foot b → False
 st w w' h h1 := ⟨A.st w w' (fun b hb => h b (.inl hb)) h1.1, C.st w w' (fun b hb => h b (.inr hb)) h1.2.1, h1.2.2⟩
theorem Wd.unite {A C : It} (h : Wd B (A :: C :: H) w) (hA : A.ro = false) (hC : C.ro = false) : Wd B (unI A C :: H) w := by
 have hs := List.pairwise_cons.1 h.sep
 have hs2 := List.pairwise_cons.1 hs.2
 have o1 := h.ok A (by simp)
 have o2 := h.ok C (by simp)
 have hd := sepR.out (hs.1 C (by simp)) hA
 have f1 : ∀ b, A.foot b → (B.m b ∨ B.w.heap.size ≤ b) ∧ b < w.heap.size := fun b hb => ⟨((o1.2 b hb).1).resolve_left (by rw [hA]; simp), (o1.2 b hb).2⟩
 have f2 : ∀ b, C.foot b → (B.m b ∨ B.w.heap.size ≤ b) ∧ b < w.heap.size := fun b hb => ⟨((o2.2 b hb).1).resolve_left (by rw [hC]; simp), (o2.2 b hb).2⟩
 refine ⟨h.os, h.tape, h.output, h.size, h.block, fun D hD => ?_, List.pairwise_cons.2 ⟨fun D hD => .inr (fun b h1 h2 => ?_), hs2.2⟩⟩
 ·rcases List.mem_cons.1 hD with rfl | hD
  ·exact ⟨⟨o1.1, o2.1, hd⟩, fun b hb => hb.elim (fun h => ⟨.inr (f1 b h).1, (f1 b h).2⟩) (fun h => ⟨.inr (f2 b h).1, (f2 b h).2⟩)⟩
  ·exact h.ok D (by simp [hD])
 ·rcases h1 with h1 | h1
  ·exact sepR.out (hs.1 D (by simp [hD])) hA b h1 h2
  ·exact sepR.out (hs2.1 D hD) hC b h1 h2
theorem Wd.split {A C : It} (h : Wd B (unI A C :: H) w) : Wd B (A :: C :: H) w := by
 have hs := List.pairwise_cons.1 h.sep
 have o := h.ok (unI A C) (by simp)
 have hf : ∀ b, A.foot b ∨ C.foot b → (False ∨ B.m b ∨ B.w.heap.size ≤ b) ∧ b < w.heap.size := fun b hb => by
  have := o.2 b hb
  exact ⟨this.1.imp_left (fun h => by cases h), this.2⟩
 have hd : ∀ D ∈ H, ∀ b, A.foot b ∨ C.foot b → D.foot b → False := fun D hD => sepR.out (hs.1 D hD) rfl
 refine ⟨h.os, h.tape, h.output, h.size, h.block, fun D hD => ?_, List.pairwise_cons.2 ⟨fun D hD => .inr (fun b h1 h2 => ?_), List.pairwise_cons.2 ⟨fun D hD => .inr (fun b h1 h2 => hd D hD b (.inr h1) h2), hs.2⟩⟩⟩
 ·rcases List.mem_cons.1 hD with rfl | hD
  ·exact ⟨o.1.1, fun b hb => ⟨(hf b (.inl hb)).1.imp_left (fun h => h.elim), (hf b (.inl hb)).2⟩⟩
  ·rcases List.mem_cons.1 hD with rfl | hD
   ·exact ⟨o.1.2.1, fun b hb => ⟨(hf b (.inr hb)).1.imp_left (fun h => h.elim), (hf b (.inr hb)).2⟩⟩
   ·exact h.ok D (by simp [hD])
 ·rcases List.mem_cons.1 hD with rfl | hD
  ·exact o.1.2.2 b h1 h2
  ·exact hd D hD b (.inl h1) h2
theorem Wd.keepO {A C : It} {H0 : List It} {w0 : World} (hw : Wd B H w0) (hW : Wd ⟨w0, A.foot, none, []⟩ H0 w) (hk : Pk [C, A] H) (hr : C.ro = false) : C.holds w ∧ ∀ b, C.foot b → ¬ A.foot b := by
 have h2 := hw.pick hk
 have hs := sepR.out ((List.pairwise_cons.1 h2.sep).1 A (by simp)) hr
 have o := h2.ok C (by simp)
 exact ⟨C.st w0 w (fun b hb => hW.block b (o.2 b hb).2 (fun h => hs b hb h)) o.1, fun b hb h => hs b hb h⟩
theorem Wd.belM {A : It} {H0 : List It} {w0 w1 : World} (hw : Wd (bs w0) H w1) (hA : A ∈ H) (hAr : A.ro = false) (hW : Wd ⟨w1, A.foot, none, []⟩ H0 w) : Below w0.heap.size w0 w := by
 have hb := hw.bel
 refine ⟨hW.os.trans hb.os, hW.tape.trans hb.tape, hW.output.trans hb.output, Nat.le_trans hb.size hW.size, fun b h => (hW.block b (Nat.lt_of_lt_of_le h hb.size) (fun hf => ?_)).trans (hb.block b h)⟩
 rcases ((hw.ok A hA).2 b hf).1 with h1 | h1 | h1
 ·rw [hAr] at h1; cases h1
 ·exact h1.elim
 ·exact absurd h (Nat.not_lt.2 h1)
theorem Rm.pk {A : It} {H1 : List It} (h : Rm A H H1) : ∀ {w : World}, Wd B H w → Wd B (A :: H1) w := by
 intro w hw
 obtain ⟨h1, h2⟩ := h.sep (R := sepR) sepR_symm hw.sep
 exact ⟨hw.os, hw.tape, hw.output, hw.size, hw.block, fun C hC => hw.ok C (by rcases List.mem_cons.1 hC with rfl | hC; exact h.mem; exact h.sub C hC), List.pairwise_cons.2 ⟨h2, h1⟩⟩
theorem JL_split {A C : It} {H1 : List It} (h : JL P n B ops Q rest l (A :: C :: H1)) (hr : Rm (unI A C) H H1 := by repeat constructor) : JL P n B ops Q rest l H := fun a w ha hw => h a w ha (hr.pk hw).split
theorem J_split {A C : It} {H1 : List It} (h : J P n B c Q l (A :: C :: H1)) (hr : Rm (unI A C) H H1 := by repeat constructor) : J P n B c Q l H := fun a w ha hw => h a w ha (hr.pk hw).split
theorem wpS_seq_k {x y : Code} {K : Act → List Frame → World → Prop} {Q : Exit → Act → List Frame → World → Prop} {cs : List Frame} (h1 : x.wpS P (Exit.thenS K (fun _ _ _ _ => False)) a cs w) (h2 : ∀ a cs w, K a cs w → y.wpS P Q a cs w) : (x.seq y).wpS P Q a cs w := by
 refine wpS_seq (fun b k hb hr => ?_)
 obtain ⟨e, a', cs', w', hq, harr⟩ := h1 b k hb hr
 cases e with
 | normal => exact ⟨.normal, a', cs', w', h2 _ _ _ hq, harr⟩
 | _ => exact hq.elim
end
end Go.Proofs.YtjkolebffbeeeaaGreatDoor
