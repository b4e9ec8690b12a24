import Derived.Test.YtjkolebffbeeeaaGreatDoorWk
import Derived.Test.YtjkolebffbeeeaaGreatDoorG10
/- answered: what a question comes to, with its refusal caught. -/
namespace Go.Proofs.YtjkolebffbeeeaaGreatDoor
open Go Go.RowKit Go.Proofs
attribute [local irreducible] J JQ JL JA JD

theorem ta69 (v : Value) (w : World) : (Instr.typeAssert (.iface 101 v) 20 101 true).run Tryz.prog w = .ok (.tuple #[v, .bool true]) w := by kernel_rfl
theorem neq69 (v : Value) (w : World) : (binOp .neq 20 (.iface 101 v) .nilIface).run Tryz.prog w = .ok (.bool true) w := by kernel_rfl
theorem neq69n (w : World) : (binOp .neq 20 .nilIface .nilIface).run Tryz.prog w = .ok (.bool false) w := by kernel_rfl
theorem rp_neqI {P : Program} {n : Nat} {l : Sl} {o : Oper} {k : Nat} {t ty : TypeId} {u : Value} {r : Bool} (ho : o.op = .binOp .neq t (.tmp k) (.const .nilIface) ty) (hx : evl l (.tmp k) = some u) (h : ∀ w, (binOp .neq t u .nilIface).run P w = .ok (.bool r) w) (hu : u = .nilIface ∨ ∃ t v, u = .iface t v) : RP P n l o (.bool r) := fun a w ha => by
 have e := ha.ev hx
 have e2 : a.eval (.const .nilIface) = .nilIface := rfl
 unfold execOp; rw [ho]
 generalize a.eval = ρ at *
 rcases hu with rfl | ⟨t, v, rfl⟩ <;> simp only [e, e2, eqGuard] <;> simp [h]
abbrev act69 (bA bE : Nat) (v : Value) : Act := (Act.put { tmps := [Value.pointer (some ⟨bA, 0, none⟩), .pointer (some ⟨bE, 0, none⟩)].toArray ++ Array.replicate 18 undef, defers := [] } (some 5) v).put (some 2) v
theorem fr69 (bA bE : Nat) (v : Value) : Fr 20 [(0, .pointer (some ⟨bA, 0, none⟩)), (1, .pointer (some ⟨bE, 0, none⟩)), (2, v)] (act69 bA bE v) :=
 (((Fr.start [Value.pointer (some ⟨bA, 0, none⟩), .pointer (some ⟨bE, 0, none⟩)] 18).put 5 v rfl).put 2 v rfl).weak (by exact cov)
set_option maxRecDepth 100000 in
set_option maxHeartbeats 4000000 in
theorem catch69 (bA bE : Nat) (at_ e_ : Int) (x y : Value) (w0 : World) (m : Nat → Prop) (X : It) (w : World) (hw : Wd ⟨w0, m, none, []⟩ [cellB bA [x] 3, cellB bE [y] 27, X] w) : CallsD Tryz.prog 69 #[.pointer (some ⟨bA, 0, none⟩), .pointer (some ⟨bE, 0, none⟩)] (.panicking (Mis at_ e_)) w (fun r u' w' => r = .returned (.tuple #[]) ∧ u' = .panicking [{ v := .iface 101 (.agg #[.int .i64 at_, .int .i64 e_]), recovered := true }] ∧ Wd ⟨w0, m, none, []⟩ [cellB bA [.int .i64 at_] 3, cellB bE [.int .i64 e_] 27, X] w') := by
 refine callsD_of_wpS Tryz.func69 rfl fun c₀ cs hu => ?_
 refine wpS_seq_k (K := fun a cs' w' => a = act69 bA bE (.iface 101 (.agg #[.int .i64 at_, .int .i64 e_])) ∧ cs' = { c₀ with mode := .panicking [{ v := .iface 101 (.agg #[.int .i64 at_, .int .i64 e_]), recovered := true }] } :: cs ∧ w' = w) ?_ ?_
 ·apply wpS_region
  simp [wpOpsS, go_sem, recoverD, hu, Tryz.ntmps69, Exit.thenS, act69, Act.put]
 rintro a cs' w1 ⟨rfl, rfl, rfl⟩
 refine wpS_of_wp ?_
 refine J.wp0 (n := 20) (B := ⟨w0, m, none, []⟩) (H := [cellB bA [x] 3, cellB bE [y] 27, X]) (l := [(0, _), (1, _), (2, _)]) ?_ (fr69 bA bE _) hw
 refine s3 ?_
 refine aP (rp_neqI rfl rfl (neq69 _) (.inr ⟨_, _, rfl⟩)) ?_
 refine s6 ?_
 refine aP (rp_run1 (f := fun u => Instr.typeAssert u 20 101 true) (v := .tuple #[(.agg #[.int .i64 at_, .int .i64 e_]), .bool true]) (fun _ => rfl) rfl (fun w => ta69 _ w)) ?_
 refine s3 ?_
 refine aW oA (fun b3 hb3 => ?_)
 refine s6 ?_
 refine kJ [(0, _), (1, _), (2, _), (3, _), (4, _)] ?_
 refine s8 ?_
 refine kJ [(0, _), (1, _), (3, _)] ?_
 refine xDx [0, 1, 2, 3, 4, 5] [] [1, 3] [cellB b3 [.int .i64 at_, .int .i64 e_] 101] ?_
 refine s7 ?_
 refine JQ_of (fun a w2 ha hw2 => ⟨rfl, _, rfl, _, results_none rfl _ _ _, rfl, rfl, hw2.pick (by repeat constructor)⟩)
set_option maxRecDepth 100000 in
set_option maxHeartbeats 4000000 in
theorem idle69 (bA bE : Nat) (w0 : World) (m : Nat → Prop) (H : List It) (w : World) (hw : Wd ⟨w0, m, none, []⟩ H w) : CallsD Tryz.prog 69 #[.pointer (some ⟨bA, 0, none⟩), .pointer (some ⟨bE, 0, none⟩)] .returning w (fun r u' w' => r = .returned (.tuple #[]) ∧ u' = .returning ∧ Wd ⟨w0, m, none, []⟩ H w') := by
 refine callsD_of_wpS Tryz.func69 rfl fun c₀ cs hu => ?_
 refine wpS_seq_k (K := fun a cs' w' => a = act69 bA bE (.nilIface) ∧ cs' = c₀ :: cs ∧ w' = w) ?_ ?_
 ·apply wpS_region
  simp [wpOpsS, go_sem, recoverD, hu, Tryz.ntmps69, Exit.thenS, act69, Act.put]
 rintro a cs' w1 ⟨rfl, rfl, rfl⟩
 refine wpS_of_wp ?_
 refine J.wp0 (n := 20) (B := ⟨w0, m, none, []⟩) (H := H) (l := [(0, _), (1, _), (2, _)]) ?_ (fr69 bA bE _) hw
 refine s3 ?_
 refine aP (rp_neqI rfl rfl neq69n (.inl rfl)) ?_
 refine s4 ?_
 refine JQ_of (fun a w2 ha hw2 => ⟨rfl, .returning, by cases c₀; simp_all, _, results_none rfl _ _ _, rfl, rfl, hw2⟩)
set_option maxRecDepth 100000 in
set_option maxHeartbeats 4000000 in
theorem answered_yes {T : Type} (f : FuncId) (caps : Array Value) [Cf Tryz.prog f] (A : It) (φ : T → Prop) (C : T → It) (w : World) (hA : A.holds w) (hAf : ∀ b, A.foot b → b < w.heap.size) (hAr : A.ro = false) (hCr : ∀ t, (C t).ro = false) (h : ∀ W, Wd ⟨w, A.foot, none, []⟩ [A] W → Calls Tryz.prog f (#[] ++ #[] ++ caps) W (RetM A φ (fun _ => .tuple #[]) C W)) : Calls Tryz.prog 37 #[.func (.func f) #[] caps] w (RetM A φ (fun _ => .tuple #[.int .i64 (-1), .int .i64 0]) C w) := by
 refine J_startD (B := ⟨w, A.foot, none, []⟩) rfl rfl (vs := [.func (.func f) #[] caps]) (k := 6) (l := [(0, .func (.func f) #[] caps)]) Tryz.func37 rfl rfl Tryz.ntmps37 rfl rfl (Wd.startM hA hAf) ?_
 refine s2 ?_
 refine aW oA (fun b2 hb2 => ?_)
 refine aW oA (fun b3 hb3 => ?_)
 refine s5 ?_
 refine aDefer ?_
 refine s5 ?_
 refine aW (ow_callM (A := A) (C := C) (ec_val (f := f) rfl rfl rfl Cf.h) rfl rfl hAr hCr (by intro t; repeat constructor) (fun W hW => h W ((hW.un (r' := none) (d' := [])).pick (by repeat constructor)))) (fun t6 ht6 => ?_)
 refine s3 ?_
 refine kJ [(2, _), (3, _)] ?_
 refine s6 ?_
 refine JQ_of (fun a w2 ha hw2 => ?_)
 have hw3 : Wd ⟨w, A.foot, none, []⟩ [cellB b2 [.int .i64 (-1)] 3, cellB b3 [.int .i64 0] 27, C t6] w2 := (hw2.un (r' := none) (d' := [])).pick (by repeat constructor)
 show Leaves _ _ a.tmps _ [later 69 #[.pointer (some ⟨b2, 0, none⟩), .pointer (some ⟨b3, 0, none⟩)]] .returning w2
 exact JR_leave (B := ⟨w, A.foot, none, []⟩) Cf.h (by simp) (fun w4 hw4 => (idle69 b2 b3 w A.foot _ w4 hw4).mono (fun e u w5 q => ⟨q.1, by rw [q.2.1]; rfl, q.2.2⟩)) rfl (rr_cell rfl Agg.h (by repeat constructor) (by rfl)) (rr_cell rfl Agg.h (by repeat constructor) (by rfl)) (fun w4 hw4 => ⟨t6, ht6, rfl, hw4.pick (by repeat constructor)⟩) ha hw3
/-- Nothing. -/
def noneI : It where
 foot _ := False
 holds _ := True
 st _ _ _ _ := trivial
set_option maxRecDepth 100000 in
set_option maxHeartbeats 4000000 in
theorem answered_no (f : FuncId) (caps : Array Value) [Cf Tryz.prog f] (at_ e_ : Int) (w : World) (h : ∀ W, Below w.heap.size w W → Calls Tryz.prog f (#[] ++ #[] ++ caps) W (Fails at_ e_ W)) : Calls Tryz.prog 37 #[.func (.func f) #[] caps] w (Back (.tuple #[.int .i64 at_, .int .i64 e_]) w) := by
 refine J_startD (B := bs w) rfl rfl (vs := [.func (.func f) #[] caps]) (k := 6) (l := [(0, .func (.func f) #[] caps)]) Tryz.func37 rfl rfl Tryz.ntmps37 rfl rfl (Wd.start (bs w)) ?_
 refine s2 ?_
 refine aW oA (fun b2 hb2 => ?_)
 refine aW oA (fun b3 hb3 => ?_)
 refine s5 ?_
 refine aDefer ?_
 refine s5 ?_
 refine aPan (ec_val rfl rfl rfl Cf.h) (fun w hw => h w (Wd.bel (hw.un (r' := none) (d' := [])))) ?_
 refine s1 ?_
 refine JQ_of (fun a w2 ha hw2 => ?_)
 have hw3 : Wd (bs w) [cellB b2 [.int .i64 0] 3, cellB b3 [.int .i64 0] 27, noneI] w2 := ((((hw2.un (r' := none) (d' := [])).new (A := noneI) (Below.refl _ _) trivial (fun _ h => h.elim))).pick (by repeat constructor))
 show Leaves _ _ a.tmps _ [later 69 #[.pointer (some ⟨b2, 0, none⟩), .pointer (some ⟨b3, 0, none⟩)]] (.panicking (Mis at_ e_)) w2
 exact JR_leave (B := bs w) Cf.h (by simp) (fun w4 hw4 => (catch69 b2 b3 at_ e_ _ _ w _ _ w4 hw4).mono (fun e u w5 q => ⟨q.1, by rw [q.2.1]; rfl, q.2.2⟩)) rfl (rr_cell rfl Agg.h (by repeat constructor) (by rfl)) (rr_cell rfl Agg.h (by repeat constructor) (by rfl)) (fun w4 hw4 => ⟨rfl, hw4.bel⟩) ha hw3
end Go.Proofs.YtjkolebffbeeeaaGreatDoor

/- The program: Check, Level. -/
namespace Go.Proofs.YtjkolebffbeeeaaGreatDoor
open Go Go.RowKit Go.Proofs
attribute [local irreducible] J JQ JL JA JD

/-- What is known of a book in memory. -/
structure BkW (w : World) (Bk : List Cl) (A : Option Addr) (c : Nat) : Prop where
 row : Arr 6 eC w (.slice A Bk.length c) Bk
 cl : ∀ x ∈ Bk, ClW w x
theorem BkW.up {w w' : World} {Bk : List Cl} {A : Option Addr} {c : Nat} (h : BkW w Bk A c) (hb : Below w.heap.size w w') : BkW w' Bk A c := ⟨h.row.up EC6 hb, fun x hx => (h.cl x hx).up hb⟩
theorem bound_no {Bk : List Cl} {A : Option Addr} {c : Nat} {w : World} {a n : Int} (h : BkW w Bk A c) (hb : bndF Bk = some (a, n)) : Calls Tryz.prog 39 #[.slice A Bk.length c] w (Fails a n w) := by
 have := bound39 Bk A c w h.row h.cl
 unfold RetBd at this; rw [hb] at this; exact this
theorem bound_yes {Bk : List Cl} {A : Option Addr} {c : Nat} {w : World} (h : BkW w Bk A c) (hb : bndF Bk = none) : Calls Tryz.prog 39 #[.slice A Bk.length c] w (Ret w (BdP Bk) (fun t => .pointer (some ⟨t.bp, 0, none⟩)) (BdG A Bk.length c)) := by
 have := bound39 Bk A c w h.row h.cl
 unfold RetBd at this; rw [hb] at this; exact this
theorem bnd_64 {Bk : List Cl} (hb : bndF Bk = none) : Bk.length ≤ 64 := by
 unfold bndF at hb; split at hb
 ·cases hb
 ·omega
theorem retM_none {w w' : World} {H : List It} (hw : Wd (bs w) H w') : Wd ⟨w, noneI.foot, none, []⟩ [noneI] w' := ((hw.new (A := noneI) (Below.refl _ _) trivial (fun _ h => h.elim)).pick (by repeat constructor))
theorem back_none {v : Value} {w w' : World} {e : Ending} (h : RetM noneI (fun _ : Unit => True) (fun _ => v) (fun _ => noneI) w e w') : Back v w e w' := by
 obtain ⟨_, -, h1, h2⟩ := h
 exact ⟨h1, Wd.bel h2⟩
theorem opt2 {α β : Type} (x : Option (α × β)) : x = none ∨ ∃ a b, x = some (a, b) := by
 cases x with
 | none => exact .inl rfl
 | some p => exact .inr ⟨p.1, p.2, rfl⟩
def chkR (r : Option (Int × Int)) : Int × Int := r.getD (-1, 0)

set_option maxRecDepth 100000 in
set_option maxHeartbeats 4000000 in
theorem q59_no (Bk : List Cl) (A : Option Addr) (c b1 : Nat) (w : World) (hbk : BkW w Bk A c) (hl : (cellB b1 [.slice A Bk.length c] 22).holds w) {a n : Int} (hb : bndF Bk = some (a, n)) : Calls Tryz.prog 59 #[.pointer (some ⟨b1, 0, none⟩)] w (Fails a n w) := by
 refine J_enter (fun _ => False) (vs := [.pointer (some ⟨b1, 0, none⟩)]) (k := 2) (l := [(0, .pointer (some ⟨b1, 0, none⟩))]) Tryz.func59 rfl rfl Tryz.ntmps59 rfl rfl (Wd.start _) ?_
 refine s1 ?_
 refine aV (vOld rfl rfl (fun h => h) (cellB_get hl rfl)) ?_
 refine aPan (ecF rfl rfl) (fun w hw => bound_no (hbk.up hw.bel) hb) ?_
 refine JR_panic ?_
 intro w' hw
 exact ⟨rfl, hw.bel⟩
set_option maxRecDepth 100000 in
set_option maxHeartbeats 4000000 in
theorem q59_yes (Bk : List Cl) (A : Option Addr) (c b1 : Nat) (w : World) (hbk : BkW w Bk A c) (hl : (cellB b1 [.slice A Bk.length c] 22).holds w) (hb : bndF Bk = none) : Calls Tryz.prog 59 #[.pointer (some ⟨b1, 0, none⟩)] w (RetM noneI (fun _ : Unit => True) (fun _ => .tuple #[]) (fun _ => noneI) w) := by
 refine J_enter (fun _ => False) (vs := [.pointer (some ⟨b1, 0, none⟩)]) (k := 2) (l := [(0, .pointer (some ⟨b1, 0, none⟩))]) Tryz.func59 rfl rfl Tryz.ntmps59 rfl rfl (Wd.start _) ?_
 refine s1 ?_
 refine aV (vOld rfl rfl (fun h => h) (cellB_get hl rfl)) ?_
 refine aW (oR (fun w hw => bound_yes (hbk.up hw.bel) hb)) (fun t2 _ => ?_)
 refine s1 ?_
 refine JR_end rfl ?_
 intro w' hw
 exact ⟨(), trivial, rfl, retM_none hw⟩
set_option maxRecDepth 100000 in
set_option maxHeartbeats 4000000 in
theorem Check24 (Bk : List Cl) (A : Option Addr) (c : Nat) (w : World) (hbk : BkW w Bk A c) : Calls Tryz.prog 24 #[.slice A Bk.length c] w (Back (.tuple #[.int .i64 (chkR (bndF Bk)).1, .int .i64 (chkR (bndF Bk)).2]) w) := by
 refine J_enter (fun _ => False) (vs := [.slice A Bk.length c]) (k := 7) (l := [(0, .slice A Bk.length c)]) Tryz.func24 rfl rfl Tryz.ntmps24 rfl rfl (Wd.start _) ?_
 refine s2 ?_
 refine aW (oX [_]) (fun b1 hb1 => ?_)
 refine s5 ?_
 obtain hb | ⟨a, n, hb⟩ := opt2 (bndF Bk)
 ·refine s2 ?_
  refine aCB (fun w hw => (answered_yes 59 #[.pointer (some ⟨b1, 0, none⟩)] noneI (fun _ : Unit => True) (fun _ => noneI) w trivial (fun _ h => h.elim) rfl (fun _ => rfl) (fun W hW => q59_yes Bk A c b1 W ((hbk.up hw.bel).up (Wd.bel hW)) ((cellB b1 [.slice A Bk.length c] 22).st _ _ (fun b h => (Wd.bel hW).block b ((hw.ok _ (List.mem_cons_self)).2 b h).2) (hw.ok (cellB b1 [.slice A Bk.length c] 22) (by repeat constructor)).1) hb)).mono (fun _ _ => back_none)) ?_
  refine s7 ?_
  refine JR_two rfl (rr_tmp rfl) (rr_tmp rfl) ?_
  intro w' hw
  exact ⟨by unfold chkR; rw [hb]; rfl, hw.bel⟩
 ·refine s2 ?_
  refine aCB (fun w hw => answered_no 59 #[.pointer (some ⟨b1, 0, none⟩)] a n w (fun W hW => q59_no Bk A c b1 W ((hbk.up hw.bel).up hW) ((cellB b1 [.slice A Bk.length c] 22).st _ _ (fun b h => hW.block b ((hw.ok _ (List.mem_cons_self)).2 b h).2) (hw.ok (cellB b1 [.slice A Bk.length c] 22) (by repeat constructor)).1) hb)) ?_
  refine s7 ?_
  refine JR_two rfl (rr_tmp rfl) (rr_tmp rfl) ?_
  intro w' hw
  exact ⟨by unfold chkR; rw [hb]; rfl, hw.bel⟩
theorem Wd.belO {A : It} {w0 W w : World} {H : List It} {d : List Deferred} (h : Wd ⟨W, A.foot, none, d⟩ H w) (hb : Below w0.heap.size w0 W) (hA : ∀ b, A.foot b → w0.heap.size ≤ b) : Below w0.heap.size w0 w :=
 ⟨h.os.trans hb.os, h.tape.trans hb.tape, h.output.trans hb.output, Nat.le_trans hb.size h.size, fun b hlt => (h.block b (Nat.lt_of_lt_of_le hlt hb.size) (fun hf => absurd hlt (Nat.not_lt.2 (hA b hf)))).trans (hb.block b hlt)⟩
theorem Wd.newA {A : It} {w0 w : World} {H : List It} (h : Wd (bs w0) H w) (hA : A ∈ H) (hr : A.ro = false) : (∀ b, A.foot b → w0.heap.size ≤ b) ∧ ∀ b, A.foot b → b < w.heap.size := by
 refine ⟨fun b hb => ?_, fun b hb => ((h.ok A hA).2 b hb).2⟩
 rcases ((h.ok A hA).2 b hb).1 with h1 | h1 | h1
 ·rw [hr] at h1; cases h1
 ·exact h1.elim
 ·exact h1
def lvlQ (Bk : List Cl) (x : ByteArray) : Option (Int × Int) := match bndF Bk with | some r => some r | none => if nameB x = true then none else some (-1, 2)
def lvOf (Bk : List Cl) : LM := (lvl Bk).getD (fun _ => none)
def levR (Bk : List Cl) (x : ByteArray) : Int × Int := match lvlQ Bk x with | some (_, n) => (0, n) | none => (gM (lvOf Bk) x, 0)
set_option maxRecDepth 100000 in
set_option maxHeartbeats 4000000 in
theorem q61_no (Bk : List Cl) (A : Option Addr) (c b2 b3 b4 : Nat) (x : ByteArray) (hx : okS x) (w : World) (hl : (cellB b2 [.slice A Bk.length c] 22).holds w) (hxx : (cellB b3 [.string x] 9).holds w) (hbk : BkW w Bk A c) {a n : Int} (hq : lvlQ Bk x = some (a, n)) : Calls Tryz.prog 61 #[.pointer (some ⟨b2, 0, none⟩), .pointer (some ⟨b3, 0, none⟩), .pointer (some ⟨b4, 0, none⟩)] w (Fails a n w) := by
 refine J_enter (fun _ => False) (vs := [.pointer (some ⟨b2, 0, none⟩), .pointer (some ⟨b3, 0, none⟩), .pointer (some ⟨b4, 0, none⟩)]) (k := 12) (l := [(0, .pointer (some ⟨b2, 0, none⟩)), (1, .pointer (some ⟨b3, 0, none⟩)), (2, .pointer (some ⟨b4, 0, none⟩))]) Tryz.func61 rfl rfl Tryz.ntmps61 rfl rfl (Wd.start _) ?_
 refine s1 ?_
 obtain hb | ⟨a', n', hb⟩ := opt2 (bndF Bk)
 ·refine s1 ?_
  refine aV (vOld rfl rfl (fun h => h) (cellB_get hl rfl)) ?_
  refine aW (oR (fun w hw => bound_yes (hbk.up hw.bel) hb)) (fun t5 ht5 => ?_)
  obtain ⟨bp, lb, lv, top⟩ := t5
  obtain ⟨hlv, hin, htop, hge⟩ := ht5
  dsimp only [BdG, List.cons_append, List.nil_append] at hlv hin htop hge ⊢
  refine s5 ?_
  refine aV (vOld rfl rfl (fun h => h) (cellB_get hxx rfl)) ?_
  refine aCB (fun w hw => named42 x w hx) ?_
  refine aBoolF ?_ (by cases h7 : nameB x with | false => rfl | true => (unfold lvlQ at hq; rw [hb] at hq; simp [h7] at hq))
  refine aPan (ecF rfl rfl) (fun w hw => need_no _ _ w) ?_
  refine s1 ?_
  refine JR_panic ?_
  intro w' hw
  obtain ⟨rfl, rfl⟩ : a = -1 ∧ n = 2 := by unfold lvlQ at hq; rw [hb] at hq; dsimp only at hq; split at hq; cases hq; cases hq; exact ⟨rfl, rfl⟩
  exact ⟨rfl, hw.bel⟩
 ·obtain ⟨rfl, rfl⟩ : a' = a ∧ n' = n := by unfold lvlQ at hq; rw [hb] at hq; cases hq; exact ⟨rfl, rfl⟩
  refine s1 ?_
  refine aV (vOld rfl rfl (fun h => h) (cellB_get hl rfl)) ?_
  refine aPan (ecF rfl rfl) (fun w hw => bound_no (hbk.up hw.bel) hb) ?_
  refine s1 ?_
  refine JR_panic ?_
  intro w' hw
  exact ⟨rfl, hw.bel⟩
set_option maxRecDepth 100000 in
set_option maxHeartbeats 4000000 in
theorem q61_yes (Bk : List Cl) (A : Option Addr) (c b2 b3 b4 : Nat) (x : ByteArray) (hx : okS x) (w : World) (hl : (cellB b2 [.slice A Bk.length c] 22).holds w) (hxx : (cellB b3 [.string x] 9).holds w) (w0 : World) (hbk : BkW w0 Bk A c) (hb0 : Below w0.heap.size w0 w) (hA : (cellB b4 [.int .i64 0] 3).holds w) (hAf : ∀ b, (cellB b4 [.int .i64 0] 3).foot b → b < w.heap.size) (hA0 : ∀ b, (cellB b4 [.int .i64 0] 3).foot b → w0.heap.size ≤ b) (hn2 : ¬ (cellB b4 [.int .i64 0] 3).foot b2) (hn3 : ¬ (cellB b4 [.int .i64 0] 3).foot b3) (hq : lvlQ Bk x = none) : Calls Tryz.prog 61 #[.pointer (some ⟨b2, 0, none⟩), .pointer (some ⟨b3, 0, none⟩), .pointer (some ⟨b4, 0, none⟩)] w (RetM (cellB b4 [.int .i64 0] 3) (fun _ : Unit => True) (fun _ => .tuple #[]) (fun _ => cellB b4 [.int .i64 (gM (lvOf Bk) x)] 3) w) := by
 obtain ⟨hb, hnm⟩ : bndF Bk = none ∧ nameB x = true := by
  unfold lvlQ at hq; cases hb : bndF Bk with
  | some r => rw [hb] at hq; cases hq
  | none => rw [hb] at hq; refine ⟨rfl, ?_⟩; cases h : nameB x; simp [h] at hq; rfl
 refine J_start (B := ⟨w, (cellB b4 [.int .i64 0] 3).foot, none, []⟩) rfl rfl (vs := [.pointer (some ⟨b2, 0, none⟩), .pointer (some ⟨b3, 0, none⟩), .pointer (some ⟨b4, 0, none⟩)]) (k := 12) (l := [(0, .pointer (some ⟨b2, 0, none⟩)), (1, .pointer (some ⟨b3, 0, none⟩)), (2, .pointer (some ⟨b4, 0, none⟩))]) Tryz.func61 rfl rfl Tryz.ntmps61 rfl rfl (Wd.startM hA hAf) ?_
 refine s2 ?_
 refine aV (vOld rfl rfl hn2 (cellB_get hl rfl)) ?_
 refine aW (oR (fun w hw => bound_yes (hbk.up (Wd.belO hw hb0 hA0)) hb)) (fun t5 ht5 => ?_)
 obtain ⟨bp, lb, lv, top⟩ := t5
 obtain ⟨hlv, hin, htop, hge⟩ := ht5
 dsimp only [BdG, List.cons_append, List.nil_append] at hlv hin htop hge ⊢
 refine s5 ?_
 refine aV (vOld rfl rfl hn3 (cellB_get hxx rfl)) ?_
 refine aCB (fun w hw => named42 x w hx) ?_
 refine aBoolT ?_ hnm
 refine aCB (fun w hw => need_yes _ _ w) ?_
 refine s2 ?_
 refine kJ [(1, _), (2, _), (3, _)] ?_
 refine xD [0, 1, 2, 3, 4, 5, 6] [3, 4, 5] ?_
 refine s4 ?_
 refine dL rfl (vOld rfl rfl hn3 (cellB_get hxx rfl)) ?_
 refine dL rfl (rv_lookK KS LI64 x Und.h rfl rfl rfl (by repeat constructor) rfl hx) ?_
 refine s2 ?_
 refine JR_end rfl ?_
 intro w' hw
 have e : lvOf Bk = lv := by unfold lvOf; rw [hlv]; rfl
 rw [← e] at hw
 exact ⟨(), trivial, rfl, hw.pick (by repeat constructor)⟩
set_option maxRecDepth 100000 in
set_option maxHeartbeats 4000000 in
theorem Level26 (Bk : List Cl) (A : Option Addr) (c : Nat) (x : ByteArray) (hx : okS x) (w : World) (hbk : BkW w Bk A c) : Calls Tryz.prog 26 #[.slice A Bk.length c, .string x] w (Back (.tuple #[.int .i64 (levR Bk x).1, .int .i64 (levR Bk x).2]) w) := by
 refine J_enter (fun _ => False) (vs := [.slice A Bk.length c, .string x]) (k := 11) (l := [(0, .slice A Bk.length c), (1, .string x)]) Tryz.func26 rfl rfl Tryz.ntmps26 rfl rfl (Wd.start _) ?_
 refine s2 ?_
 refine aW (oX [_]) (fun b2 hb2 => ?_)
 refine aW (oX [_]) (fun b3 hb3 => ?_)
 refine aW oA (fun b4 hb4 => ?_)
 refine s4 ?_
 obtain hq | ⟨a, n, hq⟩ := opt2 (lvlQ Bk x)
 ·refine s2 ?_
  refine aW (oM (fun w hw => answered_yes 61 #[.pointer (some ⟨b2, 0, none⟩), .pointer (some ⟨b3, 0, none⟩), .pointer (some ⟨b4, 0, none⟩)] (cellB b4 [.int .i64 0] 3) (fun _ : Unit => True) (fun _ => cellB b4 [.int .i64 (gM (lvOf Bk) x)] 3) w (hw.ok (cellB b4 [.int .i64 0] 3) (by repeat constructor)).1 (hw.newA (by repeat constructor) rfl).2 rfl (fun _ => rfl) (fun W hW => q61_yes Bk A c b2 b3 b4 x hx W (hw.keepO (C := cellB b2 [.slice A Bk.length c] 22) hW (by repeat constructor) rfl).1 (hw.keepO (C := cellB b3 [.string x] 9) hW (by repeat constructor) rfl).1 _ hbk (hw.belM (A := cellB b4 [.int .i64 0] 3) (by repeat constructor) rfl hW) (hW.ok (cellB b4 [.int .i64 0] 3) (by repeat constructor)).1 (fun b hb => ((hW.ok (cellB b4 [.int .i64 0] 3) (by repeat constructor)).2 b hb).2) (hw.newA (by repeat constructor) rfl).1 ((hw.keepO (C := cellB b2 [.slice A Bk.length c] 22) hW (by repeat constructor) rfl).2 b2 rfl) ((hw.keepO (C := cellB b3 [.string x] 9) hW (by repeat constructor) rfl).2 b3 rfl) hq))) (fun _ _ => ?_)
  refine s7 ?_
  refine kJ [(4, _), (5, _)] ?_
  refine s8 ?_
  refine JR_two rfl (rr_cell rfl Agg.h (by repeat constructor) (by rfl)) (rr_tmp rfl) ?_
  intro w' hw
  exact ⟨by unfold levR; rw [hq], hw.bel⟩
 ·refine s2 ?_
  refine aCB (fun w hw => answered_no 61 #[.pointer (some ⟨b2, 0, none⟩), .pointer (some ⟨b3, 0, none⟩), .pointer (some ⟨b4, 0, none⟩)] a n w (fun W hW => q61_no Bk A c b2 b3 b4 x hx W ((cellB b2 [.slice A Bk.length c] 22).st _ _ (fun b h => hW.block b ((hw.ok _ (by repeat constructor)).2 b h).2) (hw.ok (cellB b2 [.slice A Bk.length c] 22) (by repeat constructor)).1) ((cellB b3 [.string x] 9).st _ _ (fun b h => hW.block b ((hw.ok _ (by repeat constructor)).2 b h).2) (hw.ok (cellB b3 [.string x] 9) (by repeat constructor)).1) ((hbk.up hw.bel).up hW) hq)) ?_
  refine s7 ?_
  refine kJ [(4, _), (5, _)] ?_
  refine s8 ?_
  refine JR_two rfl (rr_cell rfl Agg.h (by repeat constructor) (by rfl)) (rr_tmp rfl) ?_
  intro w' hw
  exact ⟨by unfold levR; rw [hq], hw.bel⟩
end Go.Proofs.YtjkolebffbeeeaaGreatDoor

/- The program: Holds. -/
namespace Go.Proofs.YtjkolebffbeeeaaGreatDoor
open Go Go.RowKit Go.Proofs
attribute [local irreducible] J JQ JL JA JD

theorem mkL_mem {Bk : List Cl} {p : ByteArray → Prop} (hp : ∀ c ∈ Bk, p c.th) : ∀ (l : List Nat) (m : MS), (∀ x ∈ m.S, p x) → ∀ x ∈ (mkL Bk m l).S, p x
 | [], _, h => h
 | i :: l, m, h => mkL_mem hp l (mkC Bk m i) (fun x hx => by
  unfold mkC at hx
  split at hx
  ·exact h x hx
  ·rename_i c hc
   split at hx
   ·exact h x hx
   ·rcases List.mem_cons.1 hx with rfl | hx
    ·exact hp c (List.mem_of_getElem? hc)
    ·exact h x hx)
theorem rndF_mem {Bk : List Cl} {lv : LM} {n ed : Int} {p : ByteArray → Prop} (hp : ∀ c ∈ Bk, p c.th) : ∀ (k : Nat) (m : MS), (∀ x ∈ m.S, p x) → ∀ x ∈ (rndF Bk lv n ed k m).S, p x
 | 0, _, h => h
 | k + 1, m, h => by
  unfold rndF; split
  ·exact h
  ·exact rndF_mem hp k _ (mkL_mem hp _ m h)
theorem madF_mem (Bk : List Cl) (lv : LM) (ed : Int) (m : MS) : ∀ k, ∀ x ∈ (madF Bk lv ed k m).S, x ∈ m.S ∨ ∃ c ∈ Bk, c.th = x
 | 0 => fun _ h => .inl h
 | k + 1 => by
  rw [madF_s]; unfold levF
  exact rndF_mem (p := fun x => x ∈ m.S ∨ ∃ c ∈ Bk, c.th = x) (fun c hc => .inr ⟨c, hc, rfl⟩) _ _ (madF_mem Bk lv ed m k)
theorem levF_id {Bk : List Cl} {lv : LM} {ed : Int} {m : MS} {n : Nat} (h : ∀ c ∈ Bk, gM lv c.th < (n : Nat)) : levF Bk lv ed m n = m := by
 have e : firL Bk lv n ed m.S Bk.length = [] := by
  rw [List.eq_nil_iff_forall_not_mem]
  intro i hi
  obtain ⟨-, c, hc, h1, -⟩ := firL_mem hi
  have := h c (List.mem_of_getElem? hc)
  omega
 unfold levF rndF; rw [if_pos e]
/-- Above the greatest level nothing comes. -/
theorem madF_top {Bk : List Cl} {lv : LM} {ed : Int} {m : MS} {a : Nat} (h : ∀ c ∈ Bk, gM lv c.th ≤ (a : Nat)) : ∀ b, a ≤ b → madF Bk lv ed (b + 1) m = madF Bk lv ed (a + 1) m := by
 intro b hab
 induction b with
 | zero => obtain rfl : a = 0 := by omega
           rfl
 | succ b ih =>
  by_cases e : a = b + 1
  ·rw [e]
  ·rw [madF_s, levF_id (fun c hc => by have := h c hc; omega)]
   exact ih (by omega)
/-- What holds by a book, in an edition, with some facts. -/
def hldM (Bk : List Cl) (ed : Int) (fl0 : List ByteArray) : MS := madF Bk (lvOf Bk) ed (Bk.length + 1) ⟨fl0.reverse, fun _ => none, []⟩
theorem hld_of {Bk : List Cl} {lv : LM} {tp : Nat} {ed : Int} {fl0 : List ByteArray} (hlv : lvl Bk = some lv) (h1 : tp ≤ Bk.length) (h2 : ∀ c ∈ Bk, gM lv c.th ≤ (tp : Nat)) : madF Bk lv ed (tp + 1) ⟨fl0.reverse, fun _ => none, []⟩ = hldM Bk ed fl0 := by
 unfold hldM lvOf; rw [hlv]; exact (madF_top h2 _ h1).symm
theorem hld_ok {Bk : List Cl} {ed : Int} {fl0 : List ByteArray} (h1 : ∀ c ∈ Bk, okS c.th) (h2 : ∀ s ∈ fl0, okS s) : ∀ s ∈ (hldM Bk ed fl0).S, okS s := fun s hs => by
 rcases madF_mem _ _ _ _ _ s hs with h | ⟨c, hc, rfl⟩
 ·exact h2 s (List.mem_reverse.1 h)
 ·exact h1 c hc
theorem made_yes {Bk : List Cl} {lv : LM} {A : Option Addr} {c lb tp bp : Nat} {ed : Int} {fl0 : List ByteArray} {fA0 : Option Addr} {fc0 : Nat} {w : World} (hbk : (bookB bp A Bk.length c lb (tp : Nat)).holds w) (hlv : (mapK Tryz.prog 9 3 kS okS dI lb (4096) lv).holds w) (hB : BkW w Bk A c) (hBl : Bk.length ≤ 64) (htp : tp ≤ 64) (hfl : Arr 1 eS w (.slice fA0 fl0.length fc0) fl0) (hok : ∀ s ∈ fl0, okS s) (hq : askB ed fl0 = true) :
  Calls Tryz.prog 40 #[.pointer (some ⟨bp, 0, none⟩), .int .i64 ed, .slice fA0 fl0.length fc0] w (Ret w (MdP Bk lv tp ed fl0) (fun t => .pointer (some ⟨t.wp, 0, none⟩)) (MdG bp ed fl0)) :=
 (made40 Bk lv A c lb tp bp ed fl0 fA0 fc0 w hbk hlv hB.row hB.cl hBl htp hfl hok).mono (fun _ _ h => by unfold RetMd at h; rwa [if_pos hq] at h)
theorem made_no {Bk : List Cl} {lv : LM} {A : Option Addr} {c lb tp bp : Nat} {ed : Int} {fl0 : List ByteArray} {fA0 : Option Addr} {fc0 : Nat} {w : World} (hbk : (bookB bp A Bk.length c lb (tp : Nat)).holds w) (hlv : (mapK Tryz.prog 9 3 kS okS dI lb (4096) lv).holds w) (hB : BkW w Bk A c) (hBl : Bk.length ≤ 64) (htp : tp ≤ 64) (hfl : Arr 1 eS w (.slice fA0 fl0.length fc0) fl0) (hok : ∀ s ∈ fl0, okS s) (hq : ¬ askB ed fl0 = true) :
  Calls Tryz.prog 40 #[.pointer (some ⟨bp, 0, none⟩), .int .i64 ed, .slice fA0 fl0.length fc0] w (Fails (-1) 2 w) :=
 (made40 Bk lv A c lb tp bp ed fl0 fA0 fc0 w hbk hlv hB.row hB.cl hBl htp hfl hok).mono (fun _ _ h => by unfold RetMd at h; rwa [if_neg hq] at h)
def hldQ (Bk : List Cl) (ed : Int) (fl0 : List ByteArray) : Option (Int × Int) := match bndF Bk with | some r => some r | none => if askB ed fl0 = true then none else some (-1, 2)

set_option maxRecDepth 100000 in
set_option maxHeartbeats 4000000 in
theorem q54_no (Bk : List Cl) (A : Option Addr) (c b3 b4 b5 b6 : Nat) (ed : Int) (fl0 : List ByteArray) (fA0 : Option Addr) (fc0 : Nat) (hok : ∀ s ∈ fl0, okS s) (w : World) (hl : (cellB b3 [.slice A Bk.length c] 22).holds w) (he : (cellB b4 [.int .i64 ed] 3).holds w) (hf : (cellB b5 [.slice fA0 fl0.length fc0] 23).holds w) (hbk : BkW w Bk A c) (hfl : Arr 1 eS w (.slice fA0 fl0.length fc0) fl0) {a n : Int} (hq : hldQ Bk ed fl0 = some (a, n)) : Calls Tryz.prog 54 #[.pointer (some ⟨b3, 0, none⟩), .pointer (some ⟨b4, 0, none⟩), .pointer (some ⟨b5, 0, none⟩), .pointer (some ⟨b6, 0, none⟩)] w (Fails a n w) := by
 refine J_enter (fun _ => False) (vs := [.pointer (some ⟨b3, 0, none⟩), .pointer (some ⟨b4, 0, none⟩), .pointer (some ⟨b5, 0, none⟩), .pointer (some ⟨b6, 0, none⟩)]) (k := 6) (l := [(0, .pointer (some ⟨b3, 0, none⟩)), (1, .pointer (some ⟨b4, 0, none⟩)), (2, .pointer (some ⟨b5, 0, none⟩)), (3, .pointer (some ⟨b6, 0, none⟩))]) Tryz.func54 rfl rfl Tryz.ntmps54 rfl rfl (Wd.start _) ?_
 obtain hb | ⟨a', n', hb⟩ := opt2 (bndF Bk)
 ·have hnq : ¬ askB ed fl0 = true := fun h => by unfold hldQ at hq; rw [hb] at hq; simp [h] at hq
  refine xD [0, 2, 3, 1, 4] [0, 2, 3] ?_
  refine dL rfl (vOld rfl rfl (fun h => h) (cellB_get hl rfl)) ?_
  refine dL rfl (vOld rfl rfl (fun h => h) (cellB_get he rfl)) ?_
  refine dL rfl (vOld rfl rfl (fun h => h) (cellB_get hf rfl)) ?_
  refine dW rfl (oR (fun w hw => bound_yes (hbk.up hw.bel) hb)) (fun t5 ht5 => ?_)
  obtain ⟨bp, lb, lv, top⟩ := t5
  obtain ⟨hlv, hin, htop, hge⟩ := ht5
  dsimp only [BdG, List.cons_append, List.nil_append] at hlv hin htop hge ⊢
  obtain ⟨tp, rfl⟩ : ∃ k : Nat, top = k := ⟨top.toNat, by omega⟩
  have h64 := bnd_64 hb
  refine dPan rfl (ecF rfl rfl) (fun w hw => made_no (hw.ok (bookB bp A Bk.length c lb (tp : Nat)) (by repeat constructor)).1 (hw.ok (mapK Tryz.prog 9 3 kS okS dI lb (4096) lv) (by repeat constructor)).1 (hbk.up hw.bel) h64 (by omega) (hfl.up ES hw.bel) hok hnq) ?_
  refine JR_panic ?_
  intro w' hw
  obtain ⟨rfl, rfl⟩ : a = -1 ∧ n = 2 := by unfold hldQ at hq; rw [hb] at hq; dsimp only at hq; rw [if_neg hnq] at hq; cases hq; exact ⟨rfl, rfl⟩
  exact ⟨rfl, hw.bel⟩
 ·obtain ⟨rfl, rfl⟩ : a' = a ∧ n' = n := by unfold hldQ at hq; rw [hb] at hq; cases hq; exact ⟨rfl, rfl⟩
  refine xD [0, 2, 3, 1] [0, 2, 3] ?_
  refine dL rfl (vOld rfl rfl (fun h => h) (cellB_get hl rfl)) ?_
  refine dL rfl (vOld rfl rfl (fun h => h) (cellB_get he rfl)) ?_
  refine dL rfl (vOld rfl rfl (fun h => h) (cellB_get hf rfl)) ?_
  refine dPan rfl (ecF rfl rfl) (fun w hw => bound_no (hbk.up hw.bel) hb) ?_
  refine JR_panic ?_
  intro w' hw
  exact ⟨rfl, hw.bel⟩
set_option maxRecDepth 100000 in
set_option maxHeartbeats 4000000 in
theorem q54_yes (Bk : List Cl) (A : Option Addr) (c b3 b4 b5 b6 : Nat) (ed : Int) (fl0 : List ByteArray) (fA0 : Option Addr) (fc0 : Nat) (hok : ∀ s ∈ fl0, okS s) (w : World) (hl : (cellB b3 [.slice A Bk.length c] 22).holds w) (he : (cellB b4 [.int .i64 ed] 3).holds w) (hf : (cellB b5 [.slice fA0 fl0.length fc0] 23).holds w) (w0 : World) (hbk : BkW w0 Bk A c) (hfl : Arr 1 eS w0 (.slice fA0 fl0.length fc0) fl0) (hb0 : Below w0.heap.size w0 w) (hA : (cellB b6 [.slice none 0 0] 23).holds w) (hAf : ∀ b, (cellB b6 [.slice none 0 0] 23).foot b → b < w.heap.size) (hA0 : ∀ b, (cellB b6 [.slice none 0 0] 23).foot b → w0.heap.size ≤ b) (hn3 : ¬ (cellB b6 [.slice none 0 0] 23).foot b3) (hn4 : ¬ (cellB b6 [.slice none 0 0] 23).foot b4) (hn5 : ¬ (cellB b6 [.slice none 0 0] 23).foot b5) (hq : hldQ Bk ed fl0 = none) : Calls Tryz.prog 54 #[.pointer (some ⟨b3, 0, none⟩), .pointer (some ⟨b4, 0, none⟩), .pointer (some ⟨b5, 0, none⟩), .pointer (some ⟨b6, 0, none⟩)] w (RetM (cellB b6 [.slice none 0 0] 23) (fun t : SoT => SoP (hldM Bk ed fl0).S t.L) (fun _ => .tuple #[]) (fun t => unI (cellB b6 [.slice t.A t.L.length t.c] 23) (ownB 9 1 t.A t.L.length t.c (t.L.flatMap eS))) w) := by
 obtain ⟨hb, hak⟩ : bndF Bk = none ∧ askB ed fl0 = true := by
  unfold hldQ at hq; cases hb : bndF Bk with
  | some r => rw [hb] at hq; cases hq
  | none => rw [hb] at hq; refine ⟨rfl, ?_⟩; cases h : askB ed fl0; simp [h] at hq; rfl
 refine J_start (B := ⟨w, (cellB b6 [.slice none 0 0] 23).foot, none, []⟩) rfl rfl (vs := [.pointer (some ⟨b3, 0, none⟩), .pointer (some ⟨b4, 0, none⟩), .pointer (some ⟨b5, 0, none⟩), .pointer (some ⟨b6, 0, none⟩)]) (k := 6) (l := [(0, .pointer (some ⟨b3, 0, none⟩)), (1, .pointer (some ⟨b4, 0, none⟩)), (2, .pointer (some ⟨b5, 0, none⟩)), (3, .pointer (some ⟨b6, 0, none⟩))]) Tryz.func54 rfl rfl Tryz.ntmps54 rfl rfl (Wd.startM hA hAf) ?_
 refine xD [0, 2, 3, 1, 4, 5, 6] [0, 2, 3] ?_
 refine dL rfl (vOld rfl rfl hn3 (cellB_get hl rfl)) ?_
 refine dL rfl (vOld rfl rfl hn4 (cellB_get he rfl)) ?_
 refine dL rfl (vOld rfl rfl hn5 (cellB_get hf rfl)) ?_
 refine dW rfl (oR (fun w hw => bound_yes (hbk.up (Wd.belO hw hb0 hA0)) hb)) (fun t5 ht5 => ?_)
 obtain ⟨bp, lb, lv, top⟩ := t5
 obtain ⟨hlv, hin, htop, hge⟩ := ht5
 dsimp only [BdG, List.cons_append, List.nil_append] at hlv hin htop hge ⊢
 obtain ⟨tp, rfl⟩ : ∃ k : Nat, top = k := ⟨top.toNat, by omega⟩
 have h64 := bnd_64 hb
 refine dW rfl (oR (fun w hw => made_yes (hw.ok (bookB bp A Bk.length c lb (tp : Nat)) (by repeat constructor)).1 (hw.ok (mapK Tryz.prog 9 3 kS okS dI lb (4096) lv) (by repeat constructor)).1 (hbk.up (Wd.belO hw hb0 hA0)) h64 (by omega) (hfl.up ES (Wd.belO hw hb0 hA0)) hok hak)) (fun t8 ht8 => ?_)
 obtain ⟨wp, hb', gb, rb, t⟩ := t8
 obtain ⟨hm, hmn, hmo⟩ := ht8
 dsimp only [MdG, List.cons_append, List.nil_append] at hm hmn hmo ⊢
 rw [hld_of hlv (by omega) (fun x hx => hge _ (hbk.cl x hx).tk)] at hm
 have hmk := hld_ok (ed := ed) (fun x hx => (hbk.cl x hx).tk) hok
 refine dW rfl (oR (fun w hw => facts55 t.m.S wp bp hb' gb rb ed t w (hw.ok (recB wp bp hb' gb rb ed t) (by repeat constructor)).1 (hw.ok (setB Tryz.prog 9 kS okS hb' t.m.S) (by repeat constructor)).1 (by rw [hm]; exact hmk) (by omega))) (fun t9 ht9 => ?_)
 rw [hm] at ht9
 refine s2 ?_
 refine JR_end rfl ?_
 intro w' hw
 exact ⟨t9, ht9, rfl, Wd.unite (hw.pick (by repeat constructor)) rfl rfl⟩
def RetHd (Bk : List Cl) (ed : Int) (fl0 : List ByteArray) (w : World) (e : Ending) (w' : World) : Prop := match hldQ Bk ed fl0 with
 | some (_, n) => Back (.tuple #[.slice none 0 0, .int .i64 n]) w e w'
 | none => Ret w (fun t : SoT => SoP (hldM Bk ed fl0).S t.L) (fun t => .tuple #[.slice t.A t.L.length t.c, .int .i64 0]) (fun t => [ownB 9 1 t.A t.L.length t.c (t.L.flatMap eS)]) e w'
set_option maxRecDepth 100000 in
set_option maxHeartbeats 4000000 in
theorem Holds16 (Bk : List Cl) (A : Option Addr) (c : Nat) (ed : Int) (fl0 : List ByteArray) (fA0 : Option Addr) (fc0 : Nat) (hok : ∀ s ∈ fl0, okS s) (w : World) (hbk : BkW w Bk A c) (hfl : Arr 1 eS w (.slice fA0 fl0.length fc0) fl0) : Calls Tryz.prog 16 #[.slice A Bk.length c, .int .i64 ed, .slice fA0 fl0.length fc0] w (RetHd Bk ed fl0 w) := by
 refine J_enter (fun _ => False) (vs := [.slice A Bk.length c, .int .i64 ed, .slice fA0 fl0.length fc0]) (k := 12) (l := [(0, .slice A Bk.length c), (1, .int .i64 ed), (2, .slice fA0 fl0.length fc0)]) Tryz.func16 rfl rfl Tryz.ntmps16 rfl rfl (Wd.start _) ?_
 refine s2 ?_
 refine aW (oX [_]) (fun b3 hb3 => ?_)
 refine aW (oX [_]) (fun b4 hb4 => ?_)
 refine aW (oX [_]) (fun b5 hb5 => ?_)
 refine aW oA (fun b6 hb6 => ?_)
 refine s4 ?_
 obtain hq | ⟨a, n, hq⟩ := opt2 (hldQ Bk ed fl0)
 ·refine kJ [(3, _), (4, _), (5, _), (6, _)] ?_
  refine s2 ?_
  refine aW (oM (fun w hw => answered_yes 54 #[.pointer (some ⟨b3, 0, none⟩), .pointer (some ⟨b4, 0, none⟩), .pointer (some ⟨b5, 0, none⟩), .pointer (some ⟨b6, 0, none⟩)] (cellB b6 [.slice none 0 0] 23) (fun t : SoT => SoP (hldM Bk ed fl0).S t.L) (fun t => unI (cellB b6 [.slice t.A t.L.length t.c] 23) (ownB 9 1 t.A t.L.length t.c (t.L.flatMap eS))) w (hw.ok (cellB b6 [.slice none 0 0] 23) (by repeat constructor)).1 (hw.newA (by repeat constructor) rfl).2 rfl (fun _ => rfl) (fun W hW => q54_yes Bk A c b3 b4 b5 b6 ed fl0 fA0 fc0 hok W (hw.keepO (C := cellB b3 [.slice A Bk.length c] 22) hW (by repeat constructor) rfl).1 (hw.keepO (C := cellB b4 [.int .i64 ed] 3) hW (by repeat constructor) rfl).1 (hw.keepO (C := cellB b5 [.slice fA0 fl0.length fc0] 23) hW (by repeat constructor) rfl).1 _ hbk hfl (hw.belM (A := cellB b6 [.slice none 0 0] 23) (by repeat constructor) rfl hW) (hW.ok (cellB b6 [.slice none 0 0] 23) (by repeat constructor)).1 (fun b hb => ((hW.ok (cellB b6 [.slice none 0 0] 23) (by repeat constructor)).2 b hb).2) (hw.newA (by repeat constructor) rfl).1 ((hw.keepO (C := cellB b3 [.slice A Bk.length c] 22) hW (by repeat constructor) rfl).2 b3 rfl) ((hw.keepO (C := cellB b4 [.int .i64 ed] 3) hW (by repeat constructor) rfl).2 b4 rfl) ((hw.keepO (C := cellB b5 [.slice fA0 fl0.length fc0] 23) hW (by repeat constructor) rfl).2 b5 rfl) hq))) (fun t10 ht10 => ?_)
  refine JL_split ?_
  refine s7 ?_
  refine kJ [(6, _), (7, _)] ?_
  refine s8 ?_
  refine JR_two rfl (rr_cell rfl Agg.h (by repeat constructor) (by rfl)) (rr_tmp rfl) ?_
  intro w' hw
  unfold RetHd; rw [hq]
  exact ⟨t10, ht10, rfl, hw.pick (by repeat constructor)⟩
 ·refine kJ [(3, _), (4, _), (5, _), (6, _)] ?_
  refine s2 ?_
  refine aCB (fun w hw => answered_no 54 #[.pointer (some ⟨b3, 0, none⟩), .pointer (some ⟨b4, 0, none⟩), .pointer (some ⟨b5, 0, none⟩), .pointer (some ⟨b6, 0, none⟩)] a n w (fun W hW => q54_no Bk A c b3 b4 b5 b6 ed fl0 fA0 fc0 hok W ((cellB b3 [.slice A Bk.length c] 22).st _ _ (fun b h => hW.block b ((hw.ok _ (by repeat constructor)).2 b h).2) (hw.ok (cellB b3 [.slice A Bk.length c] 22) (by repeat constructor)).1) ((cellB b4 [.int .i64 ed] 3).st _ _ (fun b h => hW.block b ((hw.ok _ (by repeat constructor)).2 b h).2) (hw.ok (cellB b4 [.int .i64 ed] 3) (by repeat constructor)).1) ((cellB b5 [.slice fA0 fl0.length fc0] 23).st _ _ (fun b h => hW.block b ((hw.ok _ (by repeat constructor)).2 b h).2) (hw.ok (cellB b5 [.slice fA0 fl0.length fc0] 23) (by repeat constructor)).1) ((hbk.up hw.bel).up hW) ((hfl.up ES hw.bel).up ES hW) hq)) ?_
  refine s7 ?_
  refine kJ [(6, _), (7, _)] ?_
  refine s8 ?_
  refine JR_two rfl (rr_cell rfl Agg.h (by repeat constructor) (by rfl)) (rr_tmp rfl) ?_
  intro w' hw
  unfold RetHd; rw [hq]
  exact ⟨rfl, hw.bel⟩
end Go.Proofs.YtjkolebffbeeeaaGreatDoor
