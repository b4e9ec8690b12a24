/- Rows of stones and of numbers that the call has made; contracts: Clone, Ints, Same. -/
import Derived.Test.YtomcpgdpjpjioaaN
import Derived.Test.YtomcpgdpjpjioaaDr
import Derived.WalkSpells
import Derived.Lib.VarintMem
import Derived.Maps.AppendAt
import Derived.Deep.OwnRows
import Derived.RangeFuncNested
import Derived.Deep.MidRow
import Derived.Sort.CutIn
import Derived.Deep.Cut
namespace Go.Proofs.Ytomcpgdpjpjioaa
open Go.RowKit Go.Proofs Go.Shelf
attribute [local go_sem] Oper.semAt_some

theorem good_all {l : List St} : ∀ {k : Nat}, k ≤ l.length → goodF (l.take k) (l.drop k) = true → ∀ j (h : j < l.length), k ≤ j → okSt (l[j]'h) := by
  intro k hk
  induction hn : l.length - k generalizing k with
  | zero => intro _ j h1 h2; omega
  | succ n ih =>
    intro hg j h1 h2
    rw [goodF_step (by omega), Bool.and_eq_true, Bool.and_eq_true] at hg
    by_cases e : j = k
    · subst e; exact of_decide_eq_true hg.1.1
    · exact ih (k := k + 1) (by omega) (by omega) hg.2 j h1 (by omega)
theorem chk_facts {l : List St} (h : chkB l = true) : l.length ≤ 16 ∧ ∀ j (h : j < l.length), okSt (l[j]'h) := by
  unfold chkB at h
  rw [Bool.and_eq_true, Bool.and_eq_true] at h
  exact ⟨of_decide_eq_true h.1.1, fun j hj => good_all (k := 0) (Nat.zero_le _) (by simpa using h.1.2) j hj (Nat.zero_le _)⟩
abbrev pv (d : Nat) : Value := .int .i64 (d : Nat)
/-- A row of numbers, that may be written. -/
def RowI (w : World) (b : Nat) (d : List Nat) : Prop := ∀ j (h : j < d.length), w.cell? ⟨b, j, none⟩ = some (pv (d[j]'h)) ∧ w.frozen? ⟨b, j, none⟩ = false
theorem RowI.up {w w' : World} {b : Nat} {d : List Nat} (h : RowI w b d) (hb : Below w.heap.size w w') : RowI w' b d := fun j hj =>
  ⟨upc (h j hj).1 hb, (hb.frozen (p := ⟨b, j, none⟩) (lt_cell (h j hj).1)).trans (h j hj).2⟩
theorem RowI.set {w : World} {b : Nat} {d : List Nat} (h : RowI w b d) (k v : Nat) (hk : k < d.length) : RowI (w.setCell ⟨b, k, none⟩ (pv v)) b (d.set k v) := by
  intro j hj
  have hj' : j < d.length := by rwa [List.length_set] at hj
  refine ⟨?_, (World.frozen?_setCell _ _ _ _).trans (h j hj').2⟩
  by_cases e : j = k
  · subst e
    rw [World.cell?_setCell_same _ _ _ (h j hj').1, List.getElem_set_self]
  · rw [World.cell?_setCell_other _ _ _ _ (by first | (simp; done) | (simp; omega)), (h j hj').1, List.getElem_set_ne (fun h => e h.symm)]
theorem RowS.form {w : World} {v : Value} {l : List St} (h : RowS w v l) : ∃ A cap, v = .slice A l.length cap := by
  obtain ⟨A, cap, h, -⟩ := h; exact ⟨A, cap, h⟩
theorem Try.info3 : (Try.prog.info? 3).map (fun i => (i.zero, i.size, i.bytes)) = some (some (.int .i64 0), 1, 8) := by kernel_rfl
/-- A slice of numbers of the call's own. -/
def OwnN (base : Nat) (w : World) (v : Value) (d : List Nat) : Prop :=
  ∃ A cap, v = .slice A d.length cap ∧ d.length ≤ cap ∧ cap ≤ maxLen ∧ (A = none → cap = 0) ∧ (d ≠ [] → ∃ g, A = some ⟨g, 0, none⟩ ∧ base ≤ g ∧ RowI w g d)
theorem cell_heap {w w' : World} {b o : Nat} (h : w'.heap[b]? = w.heap[b]?) : w'.cell? ⟨b, o, none⟩ = w.cell? ⟨b, o, none⟩ := by simp [World.cell?, h]
theorem frozen_heap {w w' : World} {b o : Nat} (h : w'.heap[b]? = w.heap[b]?) : w'.frozen? ⟨b, o, none⟩ = w.frozen? ⟨b, o, none⟩ := by simp [World.frozen?, h]
theorem RowI.heap {w w' : World} {g : Nat} {d : List Nat} (hI : RowI w g d) (h : w'.heap[g]? = w.heap[g]?) : RowI w' g d := fun j hj =>
  ⟨(cell_heap h).trans (hI j hj).1, (frozen_heap h).trans (hI j hj).2⟩
theorem RowI.of_own {W : World} {base g cap : Nat} {d : List Nat} (h : W.ownsRow base 3 1 (.slice (some ⟨g, 0, none⟩) d.length cap) d.length (d.map pv)) : RowI W g d ∧ base ≤ g ∧ d.length ≤ cap ∧ cap ≤ maxLen ∧ ∃ cur, W.heap[g]? = some (.cells cur 3 (0, 0)) := by
  have hc := h
  rcases h.2 with ⟨h1, -⟩ | ⟨g', cap', cur, h1, h2, h3, h4, h5, -⟩
  · cases h1
  · injection h1 with e1 _ e3
    injection e1 with e1
    injection e1 with e1
    subst e1 e3
    refine ⟨fun j hj => ⟨?_, by simp [World.frozen?, h3]⟩, h2, h4, h5, cur, h3⟩
    have hcell := hc.cellAt j (by omega)
    rw [hcell, List.getElem?_map, List.getElem?_eq_getElem hj]
    rfl
theorem OwnN.form {base : Nat} {w : World} {v : Value} {d : List Nat} (h : OwnN base w v d) : ∃ A cap, v = .slice A d.length cap := by
  obtain ⟨A, cap, h, -⟩ := h; exact ⟨A, cap, h⟩
theorem OwnN.up {base : Nat} {w w' : World} {v : Value} {d : List Nat} (h : OwnN base w v d) (hb : Below w.heap.size w w') : OwnN base w' v d := by
  obtain ⟨A, cap, h1, h2, h3, h4, h5⟩ := h
  refine ⟨A, cap, h1, h2, h3, h4, fun hd => ?_⟩
  obtain ⟨g, h6, h7, h8⟩ := h5 hd
  exact ⟨g, h6, h7, h8.up hb⟩
theorem ownN_of_row {base k c : Nat} {A : Option Addr} {W : World} {d : List Nat} (h : W.ownsRow base 3 1 (.slice A k c) k (d.map pv)) : OwnN base W (.slice A k c) d := by
  have hk : k = d.length := by have := h.1; rw [List.length_map] at this; omega
  subst hk
  rcases h.2 with ⟨h1, h0⟩ | ⟨g, cap, cur, h1, h2, h3, h4, h5, h6⟩
  · injection h1 with e1 e2 e3
    subst e1 e3
    exact ⟨none, 0, rfl, by omega, Nat.zero_le _, fun _ => rfl, fun hd => absurd (List.length_eq_zero_iff.1 h0) hd⟩
  · injection h1 with e1 _ e3
    subst e1 e3
    obtain ⟨hI, hg, -, -, -⟩ := RowI.of_own h
    exact ⟨_, _, rfl, h4, h5, (fun h => by cases h), fun _ => ⟨g, rfl, hg, hI⟩⟩
def lenV : Value → Nat | .slice _ n _ => n | _ => 0
def stC (s : St) : List Value := [.int .i64 s.t, .int .i64 s.n, .int .i64 s.x, .int .i64 s.y]
abbrev OwnS (base : Nat) (W : World) (v : Value) (L : List St) : Prop := W.ownsRow base 53 4 v L.length (L.flatMap stC)
theorem Try.info53 : (Try.prog.info? 53).map (fun i => (i.zero, i.size, i.bytes)) = some (some (.agg #[.int .i64 0, .int .i64 0, .int .i64 0, .int .i64 0]), 4, 32) := by kernel_rfl
theorem boxed_up {W W' : World} {B : Nat} {t : TypeId} {v : Value} (h : Boxed W B t v) (hb : Below W.heap.size W W') : Boxed W' B t v := (hb.block B h.lt).trans h
theorem boxed_cells_up {W W' : World} {g : Nat} {o : Obj} (h : W.heap[g]? = some o) (hb : Below W.heap.size W W') : W'.heap[g]? = some o := (hb.block g (Array.getElem?_eq_some_iff.1 h).1).trans h
theorem ownBlock_ge {base : Nat} {e : TypeId} {size n : Nat} {v : Value} {xs : List Value} {W : World} (h : W.ownsRow base e size v n xs) {j : Nat} (hj : v.ownBlock = some j) : base ≤ j ∧ ∃ o, W.heap[j]? = some o ∧ o.isCells = true := by
  rcases h.2 with ⟨rfl, _⟩ | ⟨g, cap, cur, rfl, hb, hg, _⟩
  · simp [Value.ownBlock] at hj
  · obtain rfl : g = j := by simpa [Value.ownBlock] using hj
    exact ⟨hb, _, hg, rfl⟩
theorem own_up {base : Nat} {v : Value} {L : List St} {W w2 : World} (h : OwnS base W v L) (hb : Below W.heap.size W w2) : OwnS base w2 v L := by
  obtain ⟨q1, q2⟩ := h
  refine ⟨q1, q2.imp_right ?_⟩
  rintro ⟨g, cap, cur, q3, q4, q5, q6⟩
  exact ⟨g, cap, cur, q3, q4, boxed_cells_up q5 hb, q6⟩
theorem news_stC (W : World) (t : St) : ∀ j u, (stC t)[j]? = some u → (W.alloc (.cells (stC t).toArray 53)).cell? ((⟨W.heap.size, 0, none⟩ : Addr).add j) = some u := by
  intro j u hu
  have h := World.alloc_heap_new W (.cells (stC t).toArray 53)
  rw [Addr.add_mid]
  unfold World.cell?
  rw [h]
  rcases j with _ | _ | _ | _ | j <;> simp [stC] at hu <;> subst hu <;> rfl
theorem run_append_op {P : Program} {o : Oper} {a : Act} {W W' : World} {s x : Operand} {t : TypeId} {v u v' : Value} (ho : o.op = .call { callee := .builtin .append, args := #[s, x], argTypes := #[t, t] }) (hs : a.eval s = v) (hx : a.eval x = u)
    (hrun : (Builtin.append_ #[t, t] o.type #[v, u]).run P W = .ok v' W') : (execOp a.eval o).run P W = .ok (.value v') W' := by
  unfold execOp
  simp only [ho, resolve, invoke, builtin, Sem.run_bind, Sem.run_pure, Result.andThen_ok, List.map_toArray, List.map_cons, List.map_nil, hs, hx, hrun]
theorem stC_get : ∀ {L : List St} {j : Nat} (h : j < L.length) (i : Nat) (_ : i < 4), (L.flatMap stC)[j * 4 + i]? = (stC (L[j]'h))[i]?
  | [], _, h, _, _ => by simp at h
  | a :: L, 0, _, i, hi => by
    rw [List.flatMap_cons, List.getElem?_append_left (by simp [stC]; omega)]; simp
  | a :: L, j + 1, h, i, hi => by
    rw [List.flatMap_cons, List.getElem?_append_right (by simp [stC]; omega)]
    have e : (j + 1) * 4 + i - (stC a).length = j * 4 + i := by simp [stC]; omega
    rw [e, stC_get (by simpa using h) i hi]; rfl
theorem RowS.of_own {W : World} {base : Nat} {v : Value} {L : List St} (h : OwnS base W v L) (hl : L.length ≤ 281474976710656) : RowS W v L := by
  have hc := h
  rcases h.2 with ⟨rfl, h0⟩ | ⟨g, cap, cur, rfl, h2, h3, h4, h5, -⟩
  · exact ⟨none, 0, by rw [h0], by omega, ⟨by omega, by unfold maxLen; omega⟩, fun hl => absurd (List.length_eq_zero_iff.1 h0) hl⟩
  · refine ⟨_, _, rfl, h4, ⟨hl, h5⟩, fun _ => ⟨g, 0, rfl, fun j hj => ?_⟩⟩
    have one : ∀ i, i < 4 → W.cell? ⟨g, j * 4 + i, none⟩ = (stC (L[j]'hj))[i]? := fun i hi => by
      rw [← stC_get hj i hi]; exact hc.cellAt _ (by omega)
    refine ⟨?_, ?_, ?_, ?_⟩
    · rw [Nat.zero_add]; exact (one 0 (by omega)).trans rfl
    · rw [Nat.zero_add]; exact (one 1 (by omega)).trans rfl
    · rw [Nat.zero_add]; exact (one 2 (by omega)).trans rfl
    · rw [Nat.zero_add]; exact (one 3 (by omega)).trans rfl
theorem stC_len (l : List St) : (l.flatMap stC).length = l.length * 4 := by
  induction l with
  | nil => rfl
  | cons a l ih => rw [List.flatMap_cons, List.length_append, ih]; simp [stC]; omega
theorem RowS.news {W : World} {b o cap : Nat} {l : List St} (h : RowS W (.slice (some ⟨b, o, none⟩) l.length cap) l) : ∀ j u, (l.flatMap stC)[j]? = some u → W.cell? ((⟨b, o, none⟩ : Addr).add j) = some u := by
  intro j u hu
  have hlen := stC_len l
  have hj := (List.getElem?_eq_some_iff.1 hu).1
  obtain ⟨A, cap', he, h1, h2, h3⟩ := h
  injection he with e1 _ e2
  subst e1
  obtain ⟨b', o', hA, hc⟩ := h3 (by intro e; subst e; simp at hj)
  injection hA with hA
  injection hA with hb ho _
  subst hb ho
  have hq : j / 4 < l.length := by omega
  have hm : j % 4 < 4 := Nat.mod_lt _ (by omega)
  have hjj : j / 4 * 4 + j % 4 = j := by omega
  have hg := stC_get hq (j % 4) hm
  rw [hjj, hu] at hg
  obtain ⟨c0, c1, c2, c3⟩ := hc (j / 4) hq
  rw [Addr.add_mid]
  have e : o + j = o + j / 4 * 4 + j % 4 := by omega
  rw [e]
  obtain ⟨r, hr⟩ : ∃ r, j % 4 = r := ⟨_, rfl⟩
  rw [hr] at hg hm ⊢
  rcases r with _ | _ | _ | _ | r
  · rw [Nat.add_zero, c0, hg]; rfl
  · rw [Nat.zero_add, c1, hg]; rfl
  · rw [show (0 + 1 + 1) = 2 from rfl, c2, hg]; rfl
  · rw [show (0 + 1 + 1 + 1) = 3 from rfl, c3, hg]; rfl
  · omega
theorem stC_one {l : List St} {u : Value} (h : u ∈ l.flatMap stC) : u.oneCell' = true := by
  obtain ⟨s, -, hs⟩ := List.mem_flatMap.1 h
  simp [stC] at hs
  rcases hs with rfl | rfl | rfl | rfl <;> rfl
theorem news_lit (W : World) (t : St) : ∀ j u, (stC t)[j]? = some u → (W.alloc (.cells #[.int .i64 t.t, .int .i64 t.n, .int .i64 t.x, .int .i64 t.y] 53)).cell? ((⟨W.heap.size, 0, none⟩ : Addr).add j) = some u := news_stC W t
theorem stC_one1 {t : St} {u : Value} (h : u ∈ stC t) : u.oneCell' = true := by
  simp [stC] at h
  rcases h with rfl | rfl | rfl | rfl <;> rfl
set_option maxHeartbeats 1000000 in
theorem Ints_eq (d : List Nat) (b1 b2 : Nat) (v u : Value) (w : World) (h1 : OwnN b1 w v d) (h2 : OwnN b2 w u d) (hd : d.length ≤ 1000) :
    Calls Try.prog 15 #[v, u] w fun e w' => e = .returned (.bool true) ∧ Below w.heap.size w w' := by
  obtain ⟨A1, c1, rfl, k1, m1, -, g1⟩ := h1
  obtain ⟨A2, c2, rfl, k2, m2, -, g2⟩ := h2
  have HG1 := Lib.hid g1
  have HG2 := Lib.hid g2
  clear g1 g2
  go_enter Try.func15, Try.ntmps15
  go_wp2_with fail
  go_loopw [5] (fun iv wr => ∃ k : Nat, k ≤ d.length ∧ iv = .int .i64 k ∧ Below w.heap.size w wr) (fun iv _ => d.length - (intOf iv).toNat)
  case atStart => exact ⟨0, by omega, rfl, Below.refl _ _⟩
  case round =>
    obtain ⟨k, hk, rfl, hb⟩ := hrel
    have HB := Lib.hid hb
    clear hb
    by_cases hlt : k < d.length
    · have hlt' : (k : Int) < (d.length : Int) := by omega
      obtain ⟨g, rfl, -, hc⟩ := HG1.out (by intro h; subst h; simp at hlt)
      obtain ⟨g', rfl, -, hc'⟩ := HG2.out (by intro h; subst h; simp at hlt)
      have a0 := ((hc.up HB.out) k hlt).1
      have a1 := ((hc'.up HB.out) k hlt).1
      obtain ⟨x, hx⟩ : ∃ x, d[k]'hlt = x := ⟨_, rfl⟩
      rw [hx] at a0 a1
      clear hx hc hc'
      go_wp2_with fail
      go_quiet (fail)
      go_wp2_with fail
      go_roundw
      case rel => exact ⟨k + 1, by omega, by go_num, below_drewN HB.out _⟩
      case measure => simp [intOf]; omega
    · obtain rfl : k = d.length := by omega
      go_wp2_with fail
      go_ret
      exact ⟨rfl, HB.out⟩
set_option maxHeartbeats 1000000 in
theorem Same_eq (l : List St) (v u : Value) (w : World) (h1 : RowS w v l) (h2 : RowS w u l) :
    Calls Try.prog 31 #[v, u] w fun e w' => e = .returned (.bool true) ∧ Below w.heap.size w w' := by
  obtain ⟨A1, c1, rfl, k1, ⟨m1, -⟩, g1⟩ := h1
  obtain ⟨A2, c2, rfl, k2, -, g2⟩ := h2
  have HG1 := Lib.hid g1
  have HG2 := Lib.hid g2
  clear g1 g2
  go_enter Try.func31, Try.ntmps31
  go_wp2_with fail
  go_loopw [5] (fun iv wr => ∃ k : Nat, k ≤ l.length ∧ iv = .int .i64 k ∧ Below w.heap.size w wr) (fun iv _ => l.length - (intOf iv).toNat)
  case atStart => exact ⟨0, by omega, rfl, Below.refl _ _⟩
  case round =>
    obtain ⟨k, hk, rfl, hb⟩ := hrel
    have HB := Lib.hid hb
    clear hb
    by_cases hlt : k < l.length
    · have hlt' : (k : Int) < (l.length : Int) := by omega
      obtain ⟨b, o, rfl, hc⟩ := HG1.out (by intro h; subst h; simp at hlt)
      obtain ⟨b', o', rfl, hc'⟩ := HG2.out (by intro h; subst h; simp at hlt)
      have hA := (hc k hlt).up HB.out
      have hA' := (hc' k hlt).up HB.out
      obtain ⟨s, hs⟩ : ∃ s, l[k]'hlt = s := ⟨_, rfl⟩
      rw [hs] at hA hA'
      obtain ⟨a0, a1, a2, a3⟩ := hA
      obtain ⟨e0, e1, e2, e3⟩ := hA'
      obtain ⟨s1, s2, s3, s4⟩ := s
      clear hs hc hc'
      go_wp2_with fail
      go_quiet (fail)
      go_wp2_with fail
      go_roundw
      case rel => exact ⟨k + 1, by omega, by go_num, below_drewN HB.out _⟩
      case measure => simp [intOf]; omega
    · obtain rfl : k = l.length := by omega
      go_wp2_with fail
      go_ret
      exact ⟨rfl, HB.out⟩
set_option maxRecDepth 100000 in
set_option maxHeartbeats 1000000 in
theorem Clone_any (l : List St) (v : Value) (w : World) (hrow : RowS w v l) (hl : l.length ≤ 1000) :
    Calls Try.prog 69 #[v] w fun e w' => ∃ u, e = .returned u ∧ OwnS w.heap.size w' u l ∧ Below w.heap.size w w' := by
  obtain ⟨i0, hi, hz0, hz1, hz2⟩ := info_parts Try.info53
  have HR := Lib.hid hrow
  obtain ⟨A, cap, rfl⟩ := hrow.form
  clear hrow
  cases A with
  | none =>
    have hl0 : l = [] := by
      obtain ⟨A, cap', he, h1, h2, h3⟩ := HR.out
      injection he with e1 _ _
      subst e1
      cases l with
      | nil => rfl
      | cons a l => obtain ⟨b, o, h, -⟩ := h3 (by simp); cases h
    subst hl0
    have hnil := fun w => Lib.run_eql_slice_nil (P := Try.prog) w 24 53 none 0 cap 0 0 Try.underlying24
    go_enter Try.func69, Try.ntmps69
    go_wp2_with fail
    go_ret
    exact ⟨_, rfl, World.ownsRow_nil _ _ _ _, Below.refl _ _⟩
  | some a =>
    have hnil := fun w => Lib.run_eql_slice_nil (P := Try.prog) w 24 53 (some a) l.length cap 0 0 Try.underlying24
    go_enter Try.func69, Try.ntmps69
    go_upto_region 3 with fail
    clear hnil
    have hOw : (w.alloc (.cells #[] 53)).ownsRow w.heap.size 53 4 (.slice (some ⟨w.heap.size, 0, none⟩) 0 0) 0 [] := World.ownsRow_lit w #[] 0 (Nat.le_refl _) (Nat.zero_le _) rfl
    have hnews : ∀ j u, (l.flatMap stC)[j]? = some u → (w.alloc (.cells #[] 53)).cell? (a.add j) = some u := by
      intro j u hu
      have hR := HR.out.up ((Below.refl w.heap.size w).alloc (Nat.le_refl _) (.cells #[] 53))
      have hne : l ≠ [] := by intro e; subst e; simp at hu
      obtain ⟨A, cap', he, h1, h2, h3⟩ := HR.out
      injection he with e1 _ e3
      obtain ⟨b, o, hA, -⟩ := h3 hne
      rw [← e1] at hA
      injection hA with hA
      subst hA
      exact hR.news j u hu
    have hnl : (l.flatMap stC).length = l.length * 4 := stC_len l
    have hone : ∀ u ∈ l.flatMap stC, u.oneCell' = true := fun u h => stC_one h
    have HOw := Lib.hid hOw
    have HNW := Lib.hid hnews
    have HNL := Lib.hid hnl
    have HON := Lib.hid hone
    clear hOw hnews hnl hone
    go_wp2_with (at_builtin; refine wpList_append_own _ rfl _ _ 24 rfl w.heap.size 53 i0 _ 4 32 Try.underlying24 hi hz0 hz1 hz2 rfl (by decide) _ _ _ rfl HOw.out a l.length cap (l.flatMap stC) rfl HNL.out HNW.out HON.out (by unfold maxLen; omega) (by omega) (by simp) ?_; intro v' w1 hown hgrow hnn)
    refine bodyPost_ret (results_tmp rfl _ _ _) rfl ⟨v', rfl, ?_, ?_⟩
    · have h2 := hown
      rw [Nat.zero_add, List.nil_append] at h2
      exact h2
    · refine ((Below.refl w.heap.size w).alloc (Nat.le_refl _) _).grown hgrow (by simp) (fun k e => ?_)
      have e' : some w.heap.size = some k := e
      injection e' with e'
      omega
end Go.Proofs.Ytomcpgdpjpjioaa
