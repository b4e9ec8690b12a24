/- Values of several cells, compared. -/
import Derived.Test.YtlfbbofcnonhdaaSt
import Derived.Laws.StructEq
import Derived.ChangeKeysEq
namespace Go.Proofs.Ytlfbbofcnonhdaa
open Go Go.RowKit Go.Proofs
def eqF (d : Nat) (xs ys : Array Value) : List (Bool × TypeId × Nat) → Sem Bool
  | [] => pure true
  | (n, t, o) :: fs =>
    if n = true then do
      let a ← part t xs o
      let b ← part t ys o
      let r ← Op.equalIn d t a b
      if (!r) = true then pure false else eqF d xs ys fs
    else eqF d xs ys fs
theorem eqF_of (d : Nat) (xs ys : Array Value) (l : List Field) : Op.eqFields d xs ys l = eqF d xs ys (l.map (fun f => (f.name != "_", f.type, f.offset))) := by
  induction l with
  | nil => rfl
  | cons f l ih => simp only [Op.eqFields, List.map_cons, eqF, bne_iff_ne, ih]
theorem ein3 (d : Nat) (a b : Int) (w : World) : (Op.equalIn (d + 1) 3 (.int .i64 a) (.int .i64 b)).run Try.prog w = .ok (a == b) w := run_equalIn_int w d 3 .i64 .i64 a b Try.underlying3
theorem fo58 : Try.prog.underlying 58 = some (.struct (Try.prog.fieldsOf 58)) := by kernel_rfl
theorem fn58 : (Try.prog.fieldsOf 58).toList.map (fun f => (f.name != "_", f.type, f.offset)) = [(true, 3, 0), (true, 3, 1), (true, 3, 2), (true, 3, 3), (true, 3, 4), (true, 3, 5), (true, 3, 6), (true, 3, 7)] := by kernel_rfl
theorem fo89 : Try.prog.underlying 89 = some (.struct (Try.prog.fieldsOf 89)) := by kernel_rfl
theorem fn89 : (Try.prog.fieldsOf 89).toList.map (fun f => (f.name != "_", f.type, f.offset)) = [(true, 3, 0), (true, 3, 1)] := by kernel_rfl
theorem pa2 (x y : Value) (w : World) : (part 3 #[x, y] 0).run Try.prog w = .ok x w ∧ (part 3 #[x, y] 1).run Try.prog w = .ok y w := ⟨by kernel_rfl, by kernel_rfl⟩
theorem pa4 (x y z u : Value) (w : World) : (part 89 #[x, y, z, u] 0).run Try.prog w = .ok (.agg #[x, y]) w ∧ (part 89 #[x, y, z, u] 2).run Try.prog w = .ok (.agg #[z, u]) w := ⟨by kernel_rfl, by kernel_rfl⟩
theorem pa8 (a b c d e f g h : Value) (w : World) : (part 3 #[a, b, c, d, e, f, g, h] 0).run Try.prog w = .ok a w ∧ (part 3 #[a, b, c, d, e, f, g, h] 1).run Try.prog w = .ok b w ∧ (part 3 #[a, b, c, d, e, f, g, h] 2).run Try.prog w = .ok c w ∧ (part 3 #[a, b, c, d, e, f, g, h] 3).run Try.prog w = .ok d w ∧ (part 3 #[a, b, c, d, e, f, g, h] 4).run Try.prog w = .ok e w ∧ (part 3 #[a, b, c, d, e, f, g, h] 5).run Try.prog w = .ok f w ∧ (part 3 #[a, b, c, d, e, f, g, h] 6).run Try.prog w = .ok g w ∧ (part 3 #[a, b, c, d, e, f, g, h] 7).run Try.prog w = .ok h w :=
  ⟨by kernel_rfl, by kernel_rfl, by kernel_rfl, by kernel_rfl, by kernel_rfl, by kernel_rfl, by kernel_rfl, by kernel_rfl⟩
theorem ein89 (d : Nat) (a b a' b' : Int) (w : World) : (Op.equalIn (d + 2) 89 (Pv a b) (Pv a' b')).run Try.prog w = .ok (a == a' && b == b') w := by
  unfold Pv
  rw [run_equalIn_struct w (d + 1) 89 _ _ fo89 (by kernel_rfl), eqF_of, fn89]
  cases h1 : a == a' <;> cases h2 : b == b' <;>
    simp [eqF, Sem.run_bind, (pa2 _ _ _).1, (pa2 _ _ _).2, ein3, h1, h2, Result.andThen_ok, Sem.run_pure]
theorem ein42 (d : Nat) (a b a' b' : Int) (w : World) : (Op.equalIn (d + 2) 42 (Pv a b) (Pv a' b')).run Try.prog w = .ok (a == a' && b == b') w := by
  unfold Pv
  obtain ⟨i3, hi3⟩ : ∃ i, Try.prog.info? 3 = some i := by
    cases h : Try.prog.info? 3 with
    | none => have := Try.info3; rw [h] at this; cases this
    | some i => exact ⟨i, rfl⟩
  rw [run_equalIn_array w (d + 1) _ _ Try.underlying42 hi3, cells3]
  have e : List.range 2 = [0, 1] := rfl
  rw [e]
  cases h1 : a == a' <;> cases h2 : b == b' <;>
    simp [Op.eqItems, Sem.run_bind, (pa2 _ _ _).1, (pa2 _ _ _).2, ein3, h1, h2, Result.andThen_ok, Sem.run_pure]
theorem cells89' : Try.prog.cellsOf 89 = 2 := by kernel_rfl
theorem ein90 (d : Nat) (a b c e a' b' c' e' : Int) (w : World) : (Op.equalIn (d + 3) 90 (.agg #[.int .i64 a, .int .i64 b, .int .i64 c, .int .i64 e]) (.agg #[.int .i64 a', .int .i64 b', .int .i64 c', .int .i64 e'])).run Try.prog w = .ok ((a == a' && b == b') && (c == c' && e == e')) w := by
  obtain ⟨i, hi⟩ : ∃ i, Try.prog.info? 89 = some i := by
    cases h : Try.prog.info? 89 with
    | none => have : (Try.prog.info? 89).isSome = true := by kernel_rfl
              rw [h] at this; cases this
    | some i => exact ⟨i, rfl⟩
  rw [run_equalIn_array w (d + 2) _ _ (show Try.prog.underlying 90 = some (.array 2 89) by kernel_rfl) hi, cells89']
  have er : List.range 2 = [0, 1] := rfl
  have e1 := ein89 d a b a' b' w
  have e2 := ein89 d c e c' e' w
  unfold Pv at e1 e2
  rw [er]
  cases h1 : (a == a' && b == b') <;> cases h2 : (c == c' && e == e') <;> rw [h1] at e1 <;> rw [h2] at e2 <;>
    simp [Op.eqItems, Sem.run_bind, (pa4 _ _ _ _ _).1, (pa4 _ _ _ _ _).2, e1, e2, Result.andThen_ok, Sem.run_pure]
theorem ein58 (d : Nat) (r s : Rw) (w : World) : (Op.equalIn (d + 2) 58 (Rwv r) (Rwv s)).run Try.prog w = .ok (r.team == s.team && (r.place == s.place && (r.games == s.games && (r.wins == s.wins && (r.fr == s.fr && (r.ag == s.ag && (r.draws == s.draws && r.len == s.len))))))) w := by
  unfold Rwv
  rw [run_equalIn_struct w (d + 1) 58 _ _ fo58 (by kernel_rfl), eqF_of, fn58]
  obtain ⟨r1, r2, r3, r4, r5, r6, r7, r8⟩ := r
  obtain ⟨s1, s2, s3, s4, s5, s6, s7, s8⟩ := s
  have hp := pa8 (.int .i64 r1) (.int .i64 r2) (.int .i64 r3) (.int .i64 r4) (.int .i64 r5) (.int .i64 r6) (.int .i64 r7) (.int .i64 r8) w
  have hq := pa8 (.int .i64 s1) (.int .i64 s2) (.int .i64 s3) (.int .i64 s4) (.int .i64 s5) (.int .i64 s6) (.int .i64 s7) (.int .i64 s8) w
  obtain ⟨p1, p2, p3, p4, p5, p6, p7, p8⟩ := hp
  obtain ⟨q1, q2, q3, q4, q5, q6, q7, q8⟩ := hq
  cases h1 : r1 == s1
  · simp [eqF, Sem.run_bind, p1, q1, ein3, h1]
  cases h2 : r2 == s2
  · simp [eqF, Sem.run_bind, p1, q1, p2, q2, ein3, h1, h2]
  cases h3 : r3 == s3
  · simp [eqF, Sem.run_bind, p1, q1, p2, q2, p3, q3, ein3, h1, h2, h3]
  cases h4 : r4 == s4
  · simp [eqF, Sem.run_bind, p1, q1, p2, q2, p3, q3, p4, q4, ein3, h1, h2, h3, h4]
  cases h5 : r5 == s5
  · simp [eqF, Sem.run_bind, p1, q1, p2, q2, p3, q3, p4, q4, p5, q5, ein3, h1, h2, h3, h4, h5]
  cases h6 : r6 == s6
  · simp [eqF, Sem.run_bind, p1, q1, p2, q2, p3, q3, p4, q4, p5, q5, p6, q6, ein3, h1, h2, h3, h4, h5, h6]
  cases h7 : r7 == s7
  · simp [eqF, Sem.run_bind, p1, q1, p2, q2, p3, q3, p4, q4, p5, q5, p6, q6, p7, q7, ein3, h1, h2, h3, h4, h5, h6, h7]
  cases h8 : r8 == s8 <;>
    simp [eqF, Sem.run_bind, p1, q1, p2, q2, p3, q3, p4, q4, p5, q5, p6, q6, p7, q7, p8, q8, ein3, h1, h2, h3, h4, h5, h6, h7, h8]
section
variable {ρ : Operand → Value} {o : Oper} {w : World} {x y : Operand} {ty : TypeId}
theorem ex_cmp {t : TypeId} {u v : Array Value} {b : Bool} {p : Prop} [Decidable p] (hg : Try.prog.eqGuardType Try.prog.depth t = false) (ho : o.op = .binOp .neq t x y ty) (hx : ρ x = .agg u) (hy : ρ y = .agg v) (h : (Op.equalIn 10000 t (.agg u) (.agg v)).run Try.prog w = .ok b w) (hb : b = true ↔ ¬ p) : (execOp ρ o).run Try.prog w = .ok (.value (.bool (decide p))) w := by
  have e : (!b) = decide p := by
    cases b
    · have : p := by by_cases hp : p; exact hp; exact absurd (hb.2 hp) (by simp)
      simp [this]
    · have := hb.1 rfl
      simp [this]
  unfold execOp
  simp only [ho, hx, hy]
  simp [eqGuard, Sem.run_bind, hg, run_neq_struct, h, e]
theorem ex_cmpE {t : TypeId} {u v : Array Value} {b : Bool} {p : Prop} [Decidable p] (hg : Try.prog.eqGuardType Try.prog.depth t = false) (ho : o.op = .binOp .eql t x y ty) (hx : ρ x = .agg u) (hy : ρ y = .agg v) (h : (Op.equalIn 10000 t (.agg u) (.agg v)).run Try.prog w = .ok b w) (hb : b = true ↔ p) : (execOp ρ o).run Try.prog w = .ok (.value (.bool (decide p))) w := by
  have e : b = decide p := by
    cases b
    · have : ¬ p := fun hp => by have := hb.2 hp; cases this
      simp [this]
    · have := hb.1 rfl
      simp [this]
  unfold execOp
  simp only [ho, hx, hy]
  simp [eqGuard, Sem.run_bind, hg, run_eql_struct, h, e]
theorem ex_neq42 {a b c d : Int} (ho : o.op = .binOp .neq 42 x y ty) (hx : ρ x = .agg #[.int .i64 a, .int .i64 b]) (hy : ρ y = .agg #[.int .i64 c, .int .i64 d]) : (execOp ρ o).run Try.prog w = .ok (.value (.bool (decide (¬ (a = c ∧ b = d))))) w :=
  ex_cmp (by kernel_rfl) ho hx hy (ein42 9998 a b c d w) (by simp)
theorem ex_eql42 {a b c d : Int} (ho : o.op = .binOp .eql 42 x y ty) (hx : ρ x = .agg #[.int .i64 a, .int .i64 b]) (hy : ρ y = .agg #[.int .i64 c, .int .i64 d]) : (execOp ρ o).run Try.prog w = .ok (.value (.bool (decide (a = c ∧ b = d)))) w :=
  ex_cmpE (by kernel_rfl) ho hx hy (ein42 9998 a b c d w) (by simp)
theorem ex_neq89 {a b c d : Int} (ho : o.op = .binOp .neq 89 x y ty) (hx : ρ x = .agg #[.int .i64 a, .int .i64 b]) (hy : ρ y = .agg #[.int .i64 c, .int .i64 d]) : (execOp ρ o).run Try.prog w = .ok (.value (.bool (decide (¬ (a = c ∧ b = d))))) w :=
  ex_cmp (by kernel_rfl) ho hx hy (ein89 9998 a b c d w) (by simp)
theorem ex_eql89 {a b c d : Int} (ho : o.op = .binOp .eql 89 x y ty) (hx : ρ x = .agg #[.int .i64 a, .int .i64 b]) (hy : ρ y = .agg #[.int .i64 c, .int .i64 d]) : (execOp ρ o).run Try.prog w = .ok (.value (.bool (decide (a = c ∧ b = d)))) w :=
  ex_cmpE (by kernel_rfl) ho hx hy (ein89 9998 a b c d w) (by simp)
theorem ex_neq90 {a b c d a' b' c' d' : Int} (ho : o.op = .binOp .neq 90 x y ty) (hx : ρ x = .agg #[.int .i64 a, .int .i64 b, .int .i64 c, .int .i64 d]) (hy : ρ y = .agg #[.int .i64 a', .int .i64 b', .int .i64 c', .int .i64 d']) : (execOp ρ o).run Try.prog w = .ok (.value (.bool (decide (¬ ((a = a' ∧ b = b') ∧ (c = c' ∧ d = d')))))) w :=
  ex_cmp (by kernel_rfl) ho hx hy (ein90 9997 a b c d a' b' c' d' w) (by simp [and_assoc])
theorem ex_eql90 {a b c d a' b' c' d' : Int} (ho : o.op = .binOp .eql 90 x y ty) (hx : ρ x = .agg #[.int .i64 a, .int .i64 b, .int .i64 c, .int .i64 d]) (hy : ρ y = .agg #[.int .i64 a', .int .i64 b', .int .i64 c', .int .i64 d']) : (execOp ρ o).run Try.prog w = .ok (.value (.bool (decide ((a = a' ∧ b = b') ∧ (c = c' ∧ d = d'))))) w :=
  ex_cmpE (by kernel_rfl) ho hx hy (ein90 9997 a b c d a' b' c' d' w) (by simp)
theorem rw_eq (r s : Rw) : (r.team == s.team && (r.place == s.place && (r.games == s.games && (r.wins == s.wins && (r.fr == s.fr && (r.ag == s.ag && (r.draws == s.draws && r.len == s.len))))))) = true ↔ r = s := by
  obtain ⟨r1, r2, r3, r4, r5, r6, r7, r8⟩ := r
  obtain ⟨s1, s2, s3, s4, s5, s6, s7, s8⟩ := s
  simp
instance : DecidableEq Rw := fun r s => decidable_of_iff _ (rw_eq r s)
theorem ex_neq58 {r s : Rw} (ho : o.op = .binOp .neq 58 x y ty) (hx : ρ x = Rwv r) (hy : ρ y = Rwv s) : (execOp ρ o).run Try.prog w = .ok (.value (.bool (decide (r ≠ s)))) w :=
  ex_cmp (by kernel_rfl) ho hx hy (ein58 9998 r s w) (by rw [rw_eq]; simp)
theorem ex_neq29 {a b : Int} (ho : o.op = .binOp .neq 29 x y ty) (hx : ρ x = .int .i64 a) (hy : ρ y = .int .i64 b) : (execOp ρ o).run Try.prog w = .ok (.value (.bool (decide (a ≠ b)))) w := by
  have : (a != b) = decide (a ≠ b) := by by_cases h : a = b <;> simp [h]
  unfold execOp
  simp only [ho, hx, hy]
  go_simp
  skip
theorem ex_eql29 {a b : Int} (ho : o.op = .binOp .eql 29 x y ty) (hx : ρ x = .int .i64 a) (hy : ρ y = .int .i64 b) : (execOp ρ o).run Try.prog w = .ok (.value (.bool (decide (a = b)))) w := by
  unfold execOp
  simp only [ho, hx, hy]
  go_simp
  rfl
end
end Go.Proofs.Ytlfbbofcnonhdaa
