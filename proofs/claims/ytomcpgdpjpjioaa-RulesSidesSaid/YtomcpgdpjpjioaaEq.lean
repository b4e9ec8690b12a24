/- Stones and names compared; contract: slices.Equal over stones. -/
import Derived.Test.YtomcpgdpjpjioaaOw
import Derived.Laws.StructEq
namespace Go.Proofs.Ytomcpgdpjpjioaa
open Go.RowKit Go.Proofs Go.Shelf
attribute [local go_sem] Oper.semAt_some
def eqS (a b : St) : Bool := a.t == b.t && (a.n == b.n && (a.x == b.x && a.y == b.y))
theorem fo53 : Try.prog.underlying 53 = some (.struct (Try.prog.fieldsOf 53)) := by kernel_rfl
theorem fo51 : Try.prog.underlying 51 = some (.struct (Try.prog.fieldsOf 51)) := by kernel_rfl
theorem fn53 : (Try.prog.fieldsOf 53).toList.map (fun f => (f.name != "_", f.type, f.offset)) = [(true, 3, 0), (true, 3, 1), (true, 51, 2)] := by kernel_rfl
theorem fn51 : (Try.prog.fieldsOf 51).toList.map (fun f => (f.name != "_", f.type, f.offset)) = [(true, 49, 0), (true, 49, 1)] := by kernel_rfl
/-- Fields' equality, by name, type and place. -/
def eqF (d : Nat) (xs ys : Array Value) : List (Bool × TypeId × Nat) → Sem Bool
  | [] => pure true
  | (n, t, o) :: fs =>
    if n = true then do
      let a ← part t xs o
      let b ← part t ys o
      let r ← Op.equalIn d t a b
      if (!r) = true then pure false else eqF d xs ys fs
    else eqF d xs ys fs
theorem eqF_of (d : Nat) (xs ys : Array Value) (l : List Field) : Op.eqFields d xs ys l = eqF d xs ys (l.map (fun f => (f.name != "_", f.type, f.offset))) := by
  induction l with
  | nil => rfl
  | cons f l ih => simp only [Op.eqFields, List.map_cons, eqF, bne_iff_ne, ih]
theorem ein3 (d : Nat) (a b : Int) (w : World) : (Op.equalIn (d + 1) 3 (.int .i64 a) (.int .i64 b)).run Try.prog w = .ok (a == b) w := run_equalIn_int w d 3 .i64 .i64 a b Try.underlying3
theorem ein49 (d : Nat) (a b : Int) (w : World) : (Op.equalIn (d + 1) 49 (.int .i64 a) (.int .i64 b)).run Try.prog w = .ok (a == b) w := run_equalIn_int w d 49 .i64 .i64 a b (by kernel_rfl)
theorem pa3 (x y z u : Value) (w : World) : (part 3 #[x, y, z, u] 0).run Try.prog w = .ok x w ∧ (part 3 #[x, y, z, u] 1).run Try.prog w = .ok y w ∧ (part 51 #[x, y, z, u] 2).run Try.prog w = .ok (.agg #[z, u]) w := ⟨by kernel_rfl, by kernel_rfl, by kernel_rfl⟩
theorem pa49 (x y : Value) (w : World) : (part 49 #[x, y] 0).run Try.prog w = .ok x w ∧ (part 49 #[x, y] 1).run Try.prog w = .ok y w := ⟨by kernel_rfl, by kernel_rfl⟩
theorem ein51 (d : Nat) (a b a' b' : Int) (w : World) : (Op.equalIn (d + 2) 51 (.agg #[.int .i64 a, .int .i64 b]) (.agg #[.int .i64 a', .int .i64 b'])).run Try.prog w = .ok (a == a' && b == b') w := by
  rw [run_equalIn_struct w (d + 1) 51 _ _ fo51 (by kernel_rfl), eqF_of, fn51]
  cases h1 : a == a' <;> cases h2 : b == b' <;>
    simp [eqF, Sem.run_bind, (pa49 _ _ _).1, (pa49 _ _ _).2, ein49, h1, h2, Result.andThen_ok, Sem.run_pure]
theorem ein53 (d : Nat) (a b : St) (w : World) : (Op.equalIn (d + 3) 53 (Stv a) (Stv b)).run Try.prog w = .ok (eqS a b) w := by
  obtain ⟨s1, s2, s3, s4⟩ := a
  obtain ⟨t1, t2, t3, t4⟩ := b
  unfold eqS Stv
  rw [run_equalIn_struct w (d + 2) 53 _ _ fo53 (by kernel_rfl), eqF_of, fn53]
  cases h1 : s1 == t1 <;> cases h2 : s2 == t2 <;> cases h3 : (s3 == t3 && s4 == t4) <;>
    simp [eqF, Sem.run_bind, (pa3 _ _ _ _ _).1, (pa3 _ _ _ _ _).2.1, (pa3 _ _ _ _ _).2.2, ein3, ein51, h1, h2, h3, Result.andThen_ok, Sem.run_pure]
theorem neq53 (a b : St) (w : World) : (binOp .neq 53 (Stv a) (Stv b)).run Try.prog w = .ok (.bool (!eqS a b)) w := by
  have h := ein53 9997 a b w
  unfold Stv at h ⊢
  rw [run_neq_struct, h]
  rfl
/-- A stone's name, compared. -/
def eqK (x y x' y' : Int) : Bool := x == x' && y == y'
theorem fo75 : Try.prog.underlying 75 = some (.struct (Try.prog.fieldsOf 75)) := by kernel_rfl
theorem fn75 : (Try.prog.fieldsOf 75).toList.map (fun f => (f.name != "_", f.type, f.offset)) = [(true, 3, 0), (true, 3, 1)] := by kernel_rfl
theorem pa2 (x y : Value) (w : World) : (part 3 #[x, y] 0).run Try.prog w = .ok x w ∧ (part 3 #[x, y] 1).run Try.prog w = .ok y w := ⟨by kernel_rfl, by kernel_rfl⟩
theorem neq75 (a b a' b' : Int) (w : World) : (binOp .neq 75 (Ky a b) (Ky a' b')).run Try.prog w = .ok (.bool (!eqK a b a' b')) w := by
  unfold Ky eqK
  rw [run_neq_struct]
  have h : (Op.equalIn 10000 75 (.agg #[.int .i64 a, .int .i64 b]) (.agg #[.int .i64 a', .int .i64 b'])).run Try.prog w = .ok (a == a' && b == b') w := by
    rw [run_equalIn_struct w 9999 75 _ _ fo75 (by kernel_rfl), eqF_of, fn75]
    cases h1 : a == a' <;> cases h2 : b == b' <;>
      simp [eqF, Sem.run_bind, (pa2 _ _ _).1, (pa2 _ _ _).2, ein3, h1, h2, Result.andThen_ok, Sem.run_pure]
  rw [h]
  rfl
theorem eqS_iff (a b : St) : eqS a b = true ↔ a = b := by
  obtain ⟨a1, a2, a3, a4⟩ := a
  obtain ⟨b1, b2, b3, b4⟩ := b
  simp [eqS]
/-- Two lists are alike. -/
def eqL : List St → List St → Bool
  | [], [] => true
  | a :: l, b :: m => eqS a b && eqL l m
  | _, _ => false
theorem eqL_iff : ∀ (l m : List St), eqL l m = true ↔ l = m
  | [], [] => by simp [eqL]
  | a :: l, b :: m => by simp [eqL, eqS_iff, eqL_iff l m]
  | [], b :: m => by simp [eqL]
  | a :: l, [] => by simp [eqL]
theorem eqL_no {l m : List St} (h : l ≠ m) : eqL l m = false := by
  cases e : eqL l m
  · rfl
  · exact absurd ((eqL_iff l m).1 e) h
set_option maxHeartbeats 1000000 in
theorem Equal_any (l m : List St) (v u : Value) (w : World) (h1 : RowS w v l) (h2 : RowS w u m) :
    Calls Try.prog 47 #[v, u] w fun e w' => e = .returned (.bool (eqL l m)) ∧ Below w.heap.size w w' := by
  obtain ⟨A1, c1, rfl, k1, ⟨m1, -⟩, g1⟩ := h1
  obtain ⟨A2, c2, rfl, k2, ⟨m2, -⟩, g2⟩ := h2
  have HG1 := Lib.hid g1
  have HG2 := Lib.hid g2
  clear g1 g2
  by_cases hlen : l.length = m.length
  · obtain ⟨n, hn⟩ : ∃ n, m.length = n := ⟨_, rfl⟩
    rw [hlen]
    rw [hn]
    rw [hlen, hn] at k1 m1
    go_enter Try.func47, Try.ntmps47
    go_wp2_with fail
    go_loopw [13] (fun iv wr => ∃ k : Nat, k ≤ n ∧ iv = .int .i64 k ∧ (∀ j (h : j < l.length) (h' : j < m.length), j < k → l[j]'h = m[j]'h') ∧ Below w.heap.size w wr) (fun iv _ => n - (intOf iv).toNat)
    case atStart => exact ⟨0, by omega, rfl, fun _ _ _ h => by omega, Below.refl _ _⟩
    case round =>
      obtain ⟨k, hk, rfl, he, hb⟩ := hrel
      have HB := Lib.hid hb
      have HE := Lib.hid he
      clear hb he
      by_cases hltn : k < n
      · have hlt' : (k : Int) < (n : Int) := by omega
        have hlt : k < l.length := by omega
        have hltm : k < m.length := by omega
        obtain ⟨b, o, rfl, hc⟩ := HG1.out (by intro h; subst h; simp at hlt)
        obtain ⟨b', o', rfl, hc'⟩ := HG2.out (by intro h; subst h; simp at hltm)
        have hA := (hc k hlt).up HB.out
        have hA' := (hc' k hltm).up HB.out
        obtain ⟨s, hs⟩ : ∃ s, l[k]'hlt = s := ⟨_, rfl⟩
        obtain ⟨s', hs'⟩ : ∃ s', m[k]'hltm = s' := ⟨_, rfl⟩
        rw [hs] at hA
        rw [hs'] at hA'
        have HS := Lib.hid hs
        have HS' := Lib.hid hs'
        obtain ⟨a0, a1, a2, a3⟩ := hA
        obtain ⟨e0, e1, e2, e3⟩ := hA'
        obtain ⟨q, hq⟩ : ∃ q, eqS s s' = q := ⟨_, rfl⟩
        have HQ := Lib.hid hq
        obtain ⟨s1, s2, s3, s4⟩ := s
        obtain ⟨t1, t2, t3, t4⟩ := s'
        have hne : ∀ w, (binOp .neq 53 (.agg #[.int .i64 s1, .int .i64 s2, .int .i64 s3, .int .i64 s4]) (.agg #[.int .i64 t1, .int .i64 t2, .int .i64 t3, .int .i64 t4])).run Try.prog w = .ok (.bool (!q)) w := fun w => by rw [← hq]; exact neq53 ⟨s1, s2, s3, s4⟩ ⟨t1, t2, t3, t4⟩ w
        clear hs hs' hc hc' hq
        go_wp2_with fail
        go_quiet (fail)
        clear hne
        cases q
        · go_wp2_with fail
          go_ret
          refine ⟨?_, below_drewN HB.out _⟩
          rw [eqL_no (fun e => ?_)]; · rfl
          subst e
          have h1 := HS.out.symm.trans HS'.out
          have h2 := HQ.out
          rw [← h1, (eqS_iff _ _).2 rfl] at h2
          cases h2
        · go_wp2_with fail
          go_roundw
          case rel =>
            refine ⟨k + 1, by omega, by go_num, fun j h h' hj => ?_, below_drewN HB.out _⟩
            by_cases e : j = k
            · subst e; rw [HS.out, HS'.out]; exact (eqS_iff _ _).1 HQ.out
            · exact HE.out j h h' (by omega)
          case measure => simp [intOf]; omega
      · obtain rfl : k = n := by omega
        go_wp2_with fail
        go_ret
        refine ⟨?_, HB.out⟩
        rw [(eqL_iff l m).2 (List.ext_getElem hlen (fun j h h' => HE.out j h h' (by omega)))]
        rfl
  · have hlen' : ¬ (l.length : Int) = (m.length : Int) := by omega
    go_enter Try.func47, Try.ntmps47
    go_wp2_with fail
    go_ret
    refine ⟨?_, Below.refl _ _⟩
    rw [eqL_no (fun e => hlen (by rw [e]))]
    rfl
end Go.Proofs.Ytomcpgdpjpjioaa
