/- The walk by live slots: appends of slices, sets of numbers, bytes. -/
import Derived.Test.YtlfbbofcnonhdaaEa
import Derived.Test.YtlfbbofcnonhdaaBg
namespace Go.Proofs.Ytlfbbofcnonhdaa
open Go Go.RowKit Go.Proofs
def eU (x : Int) : List Value := [.int .u8 x]
theorem EU : Enc 1 eU := ⟨fun _ => rfl, fun x v h => by simp [eU] at h; subst h; rfl⟩
def eB (x : Bool) : List Value := [.bool x]
theorem EB : Enc 1 eB := ⟨fun _ => rfl, fun x v h => by simp [eB] at h; subst h; rfl⟩
def U8 (x : Int) : Prop := 0 ≤ x ∧ x ≤ 255
/-- A slice as a parameter: if it is not too long it holds elements. -/
def RowP {α : Type} (k : Nat) (ec : α → List Value) (wf : α → Prop) (w : World) (A : Option Addr) (n c : Nat) : Prop := n ≤ 281474976710656 → ∃ l : List α, l.length = n ∧ Arr k ec w (.slice A n c) l ∧ ∀ s ∈ l, wf s
/-- A slice as a parameter, however long. -/
def RowQ {α : Type} (k : Nat) (ec : α → List Value) (wf : α → Prop) (w : World) (A : Option Addr) (n : Nat) : Prop := n ≤ maxLen ∧ ∃ l : List α, l.length = n ∧ (l ≠ [] → ∃ b o, A = some ⟨b, o, none⟩ ∧ HoldL k ec w b o l) ∧ ∀ s ∈ l, wf s
section
variable {ρ : Operand → Value} {o : Oper} {w : World} {x y : Operand}
theorem ex_geq8 {a b : Int} {ty : TypeId} (ho : o.op = .binOp .geq 5 x y ty) (hx : ρ x = .int .u8 a) (hy : ρ y = .int .u8 b) : (execOp ρ o).run Try.prog w = .ok (.value (.bool (decide (b ≤ a)))) w := by
  unfold execOp
  simp only [ho, hx, hy]
  go_simp
theorem ex_conv8 {a : Int} (ho : o.op = .convert 5 3 x) (hx : ρ x = .int .u8 a) (ha : U8 a) : (execOp ρ o).run Try.prog w = .ok (.value (.int .i64 a)) w := by
  unfold U8 at ha
  unfold execOp
  simp only [ho, hx]
  have h := run_convert_int (P := Try.prog) (w := w) 5 3 .u8 a (by kernel_rfl) (by kernel_rfl)
  have e : IntKind.i64.wrap a = a := by
    unfold IntKind.wrap IntKind.bits IntKind.signed
    simp only [Bool.true_and, decide_eq_true_eq]
    split <;> omega
  rw [show Try.prog.intKind 3 = IntKind.i64 from by kernel_rfl, e] at h
  simp only [Sem.run_bind, h, Result.andThen_ok, Sem.run_pure]
end
theorem At.same {A : It} {H H' : List It} (h : At A A H H') : H = H' := by
  induction h with
  | here l => rfl
  | there D _ ih => rw [ih]
theorem HoldL.news {α : Type} {k : Nat} {enc : α → List Value} (E : Enc k enc) (hk : 0 < k) {w : World} {b o : Nat} {M : List α} (h : HoldL k enc w b o M) (j : Nat) (u : Value) (hu : (M.flatMap enc)[j]? = some u) : w.cell? ((⟨b, o, none⟩ : Addr).add j) = some u := by
  have hl := flat_len E M
  have hj : j < (M.flatMap enc).length := (List.getElem?_eq_some_iff.1 hu).1
  have hd := Nat.div_add_mod j k
  have hm := Nat.mod_lt j hk
  have hq : j / k < M.length := by
    rw [hl] at hj
    exact Nat.div_lt_of_lt_mul (by rw [Nat.mul_comm]; exact hj)
  have h1 := h (j / k) hq (j % k) hm
  have h2 := flat_get E hq (j % k) hm
  rw [Nat.mul_comm] at hd
  rw [hd] at h2
  rw [Nat.add_assoc, hd, ← h2, hu] at h1
  rw [← h1, Addr.add_mid]
section
variable {n : Nat} {B : Bs} {l : Sl} {H H' : List It} {o : Oper}
set_option maxRecDepth 100000 in
/-- append(s, t...), of whatever t. -/
theorem ow_appX {α : Type} {k : Nat} {enc : α → List Value} (E : Enc k enc) (hk : 0 < k) {sl e : TypeId} {z : Value} {bytes d : Nat} {x y : Operand} {A Y : Option Addr} {c m c' : Nat} {L M : List α} {G : Option Addr → Nat → List It}
    (ht : Try.prog.underlying sl = some (.slice e)) (hinf : (Try.prog.info? e).map (fun i => (i.zero, i.size, i.bytes)) = some (some z, k, bytes)) (hzs : z.cells.size = k) (hby : bytes ≤ 128) (hs : ∀ w, (sizeOf e).run Try.prog w = .ok k w)
    (ho : o.op = .call { callee := .builtin .append, args := #[x, y], argTypes := #[sl, sl] }) (hd : o.dst = some d) (hn : Nat.ble n d = false) (hx : evl l x = some (.slice A L.length c)) (hy : evl l y = some (.slice Y m c')) (hm : m = M.length) (hY : Y = none → c' = 0) (hLc : L.length ≤ c)
    (hnews : ∀ w, Wd B H w → Arr k enc w (.slice Y m c') M) (hl : L.length + M.length ≤ 1000000)
    (hat : ∀ A' c', At (ownB e k A L.length c (L.flatMap enc)) (ownB e k A' (L ++ M).length c' ((L ++ M).flatMap enc)) H (G A' c')) : OpS Try.prog n B (some (ownB e k A L.length c (L.flatMap enc))) l H o (fun A' c' => (d, .slice A' (L ++ M).length c') :: l) G := by
  cases Y with
  | some a =>
    refine ow_app (M := M) E hk ht hinf hzs hby ho hd hn hx hy hm (fun w hw j u hu => ?_) hl hat
    have hne : M ≠ [] := by intro e; subst e; simp at hu
    obtain ⟨A', cap, e, -, -, h4⟩ := hnews w hw
    injection e with e1
    obtain ⟨b, q, e2, hh⟩ := h4 hne
    rw [← e1] at e2
    injection e2 with e2
    subst e2
    exact hh.news E hk j u hu
  | none =>
    have hc := hY rfl
    subst hc
    refine OpW.of_run (T := Option Addr × Nat) (φ := fun _ => True) (G := fun t => G t.1 t.2) hd hn (V := fun t => .slice t.1 (L ++ M).length t.2) (fun a1 w ha hw => ?_)
    have hM : M = [] := by
      obtain ⟨A', cap, e, -, -, h4⟩ := hnews w hw
      injection e with e1
      cases M with
      | nil => rfl
      | cons u M =>
        obtain ⟨b, q, e2, -⟩ := h4 (by simp)
        rw [← e1] at e2; cases e2
    subst hM
    have hat' := hat A c
    rw [List.append_nil] at hat'
    refine ⟨(A, c), w, trivial, ?_, ?_, ⟨rfl, rfl, rfl, Nat.le_refl _, fun _ _ _ => rfl⟩⟩
    · subst hm
      rw [List.append_nil]
      exact run_append_op ho (ha.ev hx) (ha.ev hy) (run_append0 sl e o.type A L.length c k ht hs hLc)
    · rw [← hat'.same]; exact hw
/-! Sets of numbers. -/
def setNI (S : List Int) : Int → Option Bool := fun y => if S.contains y then some true else none
theorem setNI_upd (S : List Int) (x : Int) : upd (setNI S) x true = setNI (x :: S) := by
  funext y
  unfold upd setNI
  by_cases h : y = x <;> simp [h]
theorem setNI_get (S : List Int) (x : Int) : (setNI S x).getD false = S.contains x := by
  unfold setNI
  cases h : S.contains x <;> simp
def setI (b : Nat) (S : List Int) : It where
  foot k := k = b
  holds w := ∃ n c, n ≤ S.length ∧ MapF 3 4 kI W64 dB w b n c (setNI S)
  st _ _ h h1 := by obtain ⟨n, c, h0, h1⟩ := h1; exact ⟨n, c, h0, h1.heap (h b rfl)⟩
theorem ow_makeI {d : Nat} (ho : o.op = .makeMap 40 none) (hd : o.dst = some d) (hn : Nat.ble n d = false) :
    OpW Try.prog n B none l H o (fun b : Nat => B.w.heap.size ≤ b) (fun b => (d, .map (some b)) :: l) (fun b => setI b [] :: H) :=
  OpW.of_run hd hn (fun a w _ hw => ⟨w.heap.size, _, hw.size, by unfold execOp; rw [ho]; simp only [Option.map_none, Sem.run_bind, show (Instr.makeMap 40 none).run Try.prog w = .ok (.map (some w.heap.size)) (w.alloc (.map #[] 0)) from by kernel_rfl, Result.andThen_ok, Sem.run_pure], hw.new ((Below.refl _ _).alloc (Nat.le_refl _) _) (show ∃ n c, _ from ⟨0, 0, Nat.le_refl _, MapF.made w⟩) (fun b e => by cases e; simp), (show Below _ _ _ from (Below.refl _ _).alloc (Nat.le_refl _) _)⟩)
theorem rv_lookI {x y : Operand} {b : Nat} {S : List Int} (k : Int) (ho : o.op = .lookup 40 x y false) (hx : evl l x = some (.map (some b))) (hy : evl l y = some (.int .i64 k)) (hm : setI b S ∈ H) (hk : W64 k) :
    RV Try.prog n B l H o (.bool (S.contains k)) := fun a w ha hw => by
  obtain ⟨n, c, -, h⟩ := (hw.ok _ hm).1
  have h' := h.look K3 E4 Try.underlying40 hk
  rw [setNI_get] at h'
  unfold execOp; rw [ho]; simp only [ha.ev hx, ha.ev hy, show (Value.int IntKind.i64 k) = kI k from rfl, Sem.run_bind, h', Result.andThen_ok, Sem.run_pure]; rfl
theorem ow_putI {x y q : Operand} {b : Nat} {S : List Int} {s : Value} (k : Int) (ho : o.op = .mapUpdate 40 x y q) (hd : o.dst = none) (hx : evl l x = some (.map (some b))) (hy : evl l y = some (.int .i64 k)) (hq : evl l q = some s) (hs : s = .bool true)
    (hat : At (setI b S) (setI b (k :: S)) H H') (hk : W64 k) (hmn : S.length < 1000000) : OpW Try.prog n B (some (setI b S)) l H o (fun _ : Unit => True) (fun _ => l) (fun _ => H') :=
  OpW.of_skip hd (fun a w ha hw => by
    obtain ⟨n, c, h0, h⟩ := (hw.ok _ hat.mem).1
    obtain ⟨w', h1, h2, h3⟩ := h.put K3 E4 Try.underlying40 (by omega) hk (v := true) trivial
    rw [setNI_upd] at h2
    have hc : Chg (setI b S) w w' := ⟨h3.os, h3.tape, h3.output, h3.size, fun k hk hnk => h3.block k hk (fun e => hnk (by injection e))⟩
    refine ⟨(), w', trivial, by unfold execOp; rw [ho]; simp only [ha.ev hx, ha.ev hy, ha.ev hq, hs, Sem.run_bind, show (Value.int IntKind.i64 k) = kI k from rfl, show (Value.bool true) = kB true from rfl, h1, Result.andThen_ok, Sem.run_pure], hw.chg hat rfl rfl hc ⟨_, _, Nat.succ_le_succ h0, h2⟩ (fun k hk => ⟨.inl hk, ?_⟩), hc⟩
    have : k = b := hk
    subst this
    exact h2.lt)
end
end Go.Proofs.Ytlfbbofcnonhdaa
