/- A slice of stones as a parameter: what its reading gives, and that it is read again as it was. -/
import Derived.Test.YtomcpgdpjpjioaaRows
import Derived.Test.YtomcpgdpjpjioaaCt
import Derived.ProofKit
import Derived.OpenShut
import Derived.Deep.Slices
import Derived.Deep.Strs
import Derived.ChangeSame
namespace Go.Proofs.Ytomcpgdpjpjioaa
open Go.ChangeShapes Go.WideShapes Go.ChangeAt Go.RowKit Go.Deep

section
variable {H : Type} {enc : TypeId × Value → H} {W : World} {base : Nat} {spare : Nat → Bool} {held : Bool}
def stD {H : Type} (s : St) : DataW H := .agg [.lit (.int .i64 s.t), .lit (.int .i64 s.n), .agg [.lit (.int .i64 s.x), .lit (.int .i64 s.y)]]
def stWf (s : St) : Prop := (Lit.int .i64 s.t).wf = true ∧ (Lit.int .i64 s.n).wf = true ∧ (Lit.int .i64 s.x).wf = true ∧ (Lit.int .i64 s.y).wf = true
theorem cells53 : Try.prog.cellsOf 53 = 4 := by kernel_rfl
theorem cells3 : Try.prog.cellsOf 3 = 1 := by kernel_rfl
theorem cells49 : Try.prog.cellsOf 49 = 1 := by kernel_rfl
theorem cells51 : Try.prog.cellsOf 51 = 2 := by kernel_rfl

set_option maxRecDepth 100000 in
theorem st_open {n : Nat} {cs : List Value} {y : DataW H × List MemPlace} (h : DataW.trod enc Try.prog W base spare held n 53 cs = some y) : ∃ s : St, cs = stC s ∧ stWf s ∧ y = (stD s, []) := by
  obtain ⟨xs, k, -, hy, hlen, hxl, hf⟩ := DataW.trod_struct Try.underlying53 h
  rw [cells53] at hlen
  match cs, hlen, xs, hxl with
  | [v0, v1, v2, v3], _, [y0, y1, y2], _ =>
    have g0 := hf 0 _ rfl
    have g1 := hf 1 _ rfl
    have g2 := hf 2 _ rfl
    simp [cells3, cells51] at g0 g1 g2
    obtain ⟨t, e0, rfl, w0⟩ := DataW.trod_int Try.underlying3 g0
    obtain ⟨m, e1, rfl, w1⟩ := DataW.trod_int Try.underlying3 g1
    obtain ⟨xs2, k2, -, hy2, hlen2, hxl2, hf2⟩ := DataW.trod_struct Try.underlying51 g2
    match xs2, hxl2 with
    | [z0, z1], _ =>
      have q0 := hf2 0 _ rfl
      have q1 := hf2 1 _ rfl
      simp [cells49] at q0 q1
      obtain ⟨a, e2, rfl, w2⟩ := DataW.trod_int Try.underlying49 q0
      obtain ⟨b, e3, rfl, w3⟩ := DataW.trod_int Try.underlying49 q1
      simp at e0 e1 e2 e3
      subst e0 e1 e2 e3
      refine ⟨⟨t, m, a, b⟩, rfl, ⟨w0, w1, w2, w3⟩, ?_⟩
      rw [hy, hy2]; rfl
set_option maxRecDepth 100000 in
theorem st_shut {s : St} (h : stWf s) : DataW.trod enc Try.prog W base spare held 3 53 (stC s) = some (stD s, []) := by
  obtain ⟨w0, w1, w2, w3⟩ := h
  have hz : DataW.trod enc Try.prog W base spare held 2 51 [.int .i64 s.x, .int .i64 s.y] = some (.agg [.lit (.int .i64 s.x), .lit (.int .i64 s.y)], [] ++ []) :=
    trod_struct2_mk (y0 := (.lit (.int .i64 s.x), [])) (y1 := (.lit (.int .i64 s.y), [])) Try.underlying51 (by rw [cells51]; rfl) (by simp [cells49, DataW.trod, Try.underlying49, w2]) (by simp [cells49, DataW.trod, Try.underlying49, w3])
  exact trod_struct3_mk (y0 := (.lit (.int .i64 s.t), [])) (y1 := (.lit (.int .i64 s.n), [])) (y2 := (.agg [.lit (.int .i64 s.x), .lit (.int .i64 s.y)], [])) Try.underlying53 (by rw [cells53]; rfl)
    (by simp [cells3, stC, DataW.trod, Try.underlying3, w0]) (by simp [cells3, stC, DataW.trod, Try.underlying3, w1]) (by simpa [cells51, stC] using hz)

theorem cells_below {W W' : World} (hb : Below W.heap.size W W') {b n : Nat} {a : Addr} {cs : List Value} (h : W.cells? b a n = some cs) (ha : a.block < W.heap.size) : W'.cells? b a n = some cs := by
  have e : ∀ i, W'.cell? (a.add i) = W.cell? (a.add i) := fun i => by
    have hbk : (a.add i).block = a.block := by unfold Addr.add; split <;> rfl
    exact World.cell?_of_block (by rw [hbk]; exact hb.block _ ha)
  unfold World.cells? at h ⊢
  simp only [e]
  exact h
theorem cell_spot {W : World} {a : Addr} {v : Value} (h : W.cell? a = some v) : a.spot = none ∧ a.block < W.heap.size := by
  unfold World.cell? at h
  split at h
  · rename_i c t fz hh
    split at h
    · cases h
    · rename_i hs
      exact ⟨by simpa using hs, (Array.getElem?_eq_some_iff.1 hh).1⟩
  · cases h

set_option maxRecDepth 100000 in
/-- The parameter is a slice of some length; if that is no greater than 2^48 it holds stones. -/
theorem open_stones {v : Value} {d : DataW H} {p : List MemPlace} (hv : ∃ (A : Option Addr) (len cap : Nat), v = .slice A len cap) (h : DataW.Trod enc Try.prog W 0 (fun _ => true) true 24 v d p) :
    ∃ (A : Option Addr) (len cap : Nat), v = .slice A len cap ∧ (len ≤ 281474976710656 → ∃ l : List St, l.length = len ∧ RowS W v l ∧ ∀ s ∈ l, stWf s) ∧
      ∀ W' : World, Below W.heap.size W W' → ∀ sp : Nat → Bool, (∀ q ∈ p, sp q.block = true) → DataW.Trod enc Try.prog W' 0 sp true 24 v d p := by
  obtain ⟨A, len, cap, rfl⟩ := hv
  obtain ⟨n, hn⟩ := h
  rcases open_slice Try.underlying24 hn with ⟨h1, h2⟩ | ⟨a, len', cap', m, n', D, Pl, h1, hb, hl, hm, hmm, hx, hi⟩
  · simp only [Value.cells, List.cons.injEq, and_true, Value.slice.injEq] at h1
    obtain ⟨rfl, rfl, rfl⟩ := h1
    simp only [Prod.mk.injEq] at h2
    obtain ⟨rfl, rfl⟩ := h2
    exact ⟨_, _, _, rfl, fun _ => ⟨[], rfl, ⟨none, 0, rfl, Nat.le_refl _, ⟨Nat.zero_le _, Nat.zero_le _⟩, fun h => absurd rfl h⟩, nofun⟩, fun W' _ sp _ => shut_slice_nil Try.underlying24⟩
  · simp only [Value.cells, List.cons.injEq, and_true, Value.slice.injEq] at h1
    obtain ⟨rfl, rfl, rfl⟩ := h1
    simp only [if_true] at hmm
    replace hmm := hmm.symm
    subst hmm
    rw [cells53] at hx hi
    have each : ∀ i, i < cap → ∃ s : St, W.cells? 0 (a.add (i * 4)) 4 = some (stC s) ∧ stWf s ∧ D i = stD s ∧ Pl i = [] := by
      intro i hic
      obtain ⟨cs', h3, h4⟩ := hi i hic
      obtain ⟨s, rfl, hw, hy⟩ := st_open h4
      simp only [Prod.mk.injEq] at hy
      exact ⟨s, h3, hw, hy.1, hy.2⟩
    haveI : Inhabited St := ⟨⟨0, 0, 0, 0⟩⟩
    obtain ⟨S, hS⟩ := choose_lt each
    have eD : (List.range len).map D = (List.range len).map fun i => stD (S i) := List.map_congr_left fun i hi => (hS i (by have := List.mem_range.1 hi; omega)).2.2.1
    have eR : (List.range (cap - len)).map (fun j => D (len + j)) = (List.range (cap - len)).map fun j => stD (S (len + j)) := List.map_congr_left fun j hj => (hS (len + j) (by have := List.mem_range.1 hj; omega)).2.2.1
    have eP : (List.range cap).flatMap Pl = (List.range cap).flatMap fun _ => [] := flatMap_congr_range fun i hi => (hS i hi).2.2.2
    rw [eD, eR, eP] at hx
    simp only [Prod.mk.injEq] at hx
    obtain ⟨rfl, rfl⟩ := hx
    refine ⟨_, _, _, rfl, fun hlen => ⟨(List.range len).map S, by simp, ?_, ?_⟩, fun W' hb' sp hsp => ?_⟩
    · refine ⟨some a, cap, by simp, by simpa using hl, ⟨by simpa using hlen, hm⟩, fun hne => ?_⟩
      have h0 : 0 < len := by
        rcases Nat.eq_zero_or_pos len with h | h
        · subst h; simp at hne
        · exact h
      have c0 := (World.cells?_some (hS 0 (by omega)).1).2.2 0 (by omega)
      have hsp := (cell_spot (v := .int .i64 (S 0).t) (by simpa [stC, Addr.add] using c0)).1
      obtain ⟨b, o, sp⟩ := a
      simp only at hsp
      subst hsp
      refine ⟨b, o, rfl, fun j hj => ?_⟩
      have hj' : j < len := by simpa using hj
      have hc := (World.cells?_some (hS j (by omega)).1).2.2
      have e : ((List.range len).map S)[j]'hj = S j := by simp
      rw [e]
      have one : ∀ i, i < 4 → W.cell? ⟨b, o + j * 4 + i, none⟩ = (stC (S j))[i]? := fun i hi => by
        rw [← hc i hi, add_add]
        unfold Addr.add
        by_cases h0 : j * 4 + i = 0
        · rw [if_pos h0]; have : j * 4 = 0 := by omega
          have : i = 0 := by omega
          subst this; rw [‹j * 4 = 0›]; rfl
        · rw [if_neg h0, Nat.add_assoc]
      exact ⟨one 0 (by omega), one 1 (by omega), one 2 (by omega), one 3 (by omega)⟩
    · intro s hs
      obtain ⟨i, hi, rfl⟩ := List.mem_map.1 hs
      exact (hS i (by have := List.mem_range.1 hi; omega)).2.1
    · rcases Nat.eq_zero_or_pos cap with h0 | h0
      · subst h0
        obtain rfl : len = 0 := by omega
        cases hs : sp a.block with
        | true =>
          have := shut_slice_whole (enc := enc) (w := W') (held := true) (base := 0) (P := Try.prog) (a := a) (len := 0) (cap := 0) Try.underlying24 (Nat.zero_le _) (Nat.le_refl _) (Nat.zero_le _) hs (fun i => stD (S i)) (fun _ => []) (fun i hi => absurd hi (Nat.not_lt_zero _))
          rw [cells53] at this
          exact this
        | false =>
          have := shut_slice (enc := enc) (w := W') (held := true) (base := 0) (P := Try.prog) (a := a) (len := 0) (cap := 0) Try.underlying24 (Nat.zero_le _) (Nat.le_refl _) (Nat.zero_le _) hs (fun i => stD (S i)) (fun _ => []) (fun i hi => absurd hi (Nat.not_lt_zero _))
          rw [cells53] at this
          exact this
      · have hc0 := (World.cells?_some (hS 0 h0).1).2.2 0 (by omega)
        have hblk := (cell_spot (v := .int .i64 (S 0).t) (by simpa [stC, Addr.add] using hc0)).2
        have hs : sp a.block = true := hsp (.cell a.block (a.off + 0)) (by
          unfold MemPlace.row
          simp only [List.mem_append, List.mem_map, List.mem_range]
          exact .inl ⟨0, by omega, rfl⟩)
        have := shut_slice_whole (enc := enc) (w := W') (held := true) (base := 0) (P := Try.prog) (a := a) (len := len) (cap := cap) Try.underlying24 (Nat.zero_le _) hl hm hs (fun i => stD (S i)) (fun _ => []) (fun i hi => ⟨stC (S i), 3, by
          rw [cells53]
          refine cells_below hb' (hS i hi).1 ?_
          have : (a.add (i * 4)).block = a.block := by unfold Addr.add; split <;> rfl
          rw [this]; exact hblk, st_shut (hS i hi).2.1⟩)
        rw [cells53] at this
        exact this
/-- The like, of a slice of whatever length. -/
def StP (W : World) (A : Option Addr) (n c : Nat) : Prop := n ≤ 281474976710656 → ∃ l : List St, l.length = n ∧ RowS W (.slice A n c) l ∧ ∀ s ∈ l, stWf s
def cdWf (c : Cd) : Prop := (Lit.int .i64 c.f).wf = true ∧ (Lit.int .i64 c.t).wf = true ∧ (Lit.int .i64 c.s).wf = true ∧ (Lit.int .i64 c.e).wf = true
theorem cells4 : Try.prog.cellsOf 4 = 1 := by kernel_rfl
theorem cells23 : Try.prog.cellsOf 23 = 5 := by kernel_rfl
theorem cells24 : Try.prog.cellsOf 24 = 1 := by kernel_rfl
theorem cells36 : Try.prog.cellsOf 36 = 6 := by kernel_rfl
set_option maxRecDepth 100000 in
/-- A code as a parameter. -/
theorem open_code {v : Value} {d : DataW H} {p : List MemPlace} {r : Reach} {b0 : Nat} (hv : Value.okWide Try.prog W r b0 23 v) (h : DataW.Trod enc Try.prog W base spare held 23 v d p) :
    ∃ c : Cd, v = Cdv c ∧ p = [] ∧ cdWf c ∧ ∀ (W' : World) (b : Nat) (sp : Nat → Bool) (h' : Bool), DataW.Trod enc Try.prog W' b sp h' 23 v d [] := by
  obtain ⟨cs, rfl, hsz⟩ := okWide_struct Try.underlying23 hv
  rw [cells23] at hsz
  obtain ⟨n, hn⟩ := h
  obtain ⟨xs, k, -, hy, -, hxl, hf⟩ := DataW.trod_struct Try.underlying23 hn
  obtain ⟨cl⟩ := cs
  match cl, hsz, xs, hxl with
  | [v0, v1, v2, v3, v4], _, [y0, y1, y2, y3, y4], _ =>
    have g0 := hf 0 _ rfl
    have g1 := hf 1 _ rfl
    have g2 := hf 2 _ rfl
    have g3 := hf 3 _ rfl
    have g4 := hf 4 _ rfl
    simp [Value.cells, cells3, cells4] at g0 g1 g2 g3 g4
    obtain ⟨a, e0, rfl, w0⟩ := DataW.trod_int Try.underlying3 g0
    obtain ⟨b, e1, rfl, w1⟩ := DataW.trod_int Try.underlying3 g1
    obtain ⟨c, e2, rfl, w2⟩ := DataW.trod_int Try.underlying3 g2
    obtain ⟨e, e3, rfl, w3⟩ := DataW.trod_int Try.underlying3 g3
    obtain ⟨q, e4, rfl⟩ := DataW.trod_bool Try.underlying4 g4
    simp at e0 e1 e2 e3 e4
    subst e0 e1 e2 e3 e4
    simp only [List.map_cons, List.map_nil, List.flatMap_cons, List.flatMap_nil, List.append_nil, Prod.mk.injEq] at hy
    obtain ⟨rfl, rfl⟩ := hy
    refine ⟨⟨a, b, c, e, q⟩, rfl, rfl, ⟨w0, w1, w2, w3⟩, fun W' b0 sp h' => ⟨2, ?_⟩⟩
    have := trod_struct_mk (enc := enc) (w := W') (base := b0) (spare := sp) (held := h') (n := 1) (cs := (Cdv ⟨a, b, c, e, q⟩).cells.toList) (xs := [(.lit (.int .i64 a), []), (.lit (.int .i64 b), []), (.lit (.int .i64 c), []), (.lit (.int .i64 e), []), (.lit (.bool q), [])]) Try.underlying23 (by rw [cells23]; rfl) (by
      simp [Value.cells, cells3, cells4, DataW.trod, Try.underlying3, Try.underlying4, w0, w1, w2, w3])
    simpa using this
def thWf (x : Th) : Prop := (Lit.int .i64 x.team).wf = true ∧ (Lit.int .i64 x.n).wf = true ∧ (Lit.int .i64 x.how).wf = true
set_option maxRecDepth 100000 in
/-- A throw as a parameter. -/
theorem open_throw {v : Value} {d : DataW H} {p : List MemPlace} {r : Reach} {b0 : Nat} (hv : Value.okWide Try.prog W r b0 36 v) (h : DataW.Trod enc Try.prog W 0 (fun _ => true) true 36 v d p) :
    ∃ (x : Th) (A : Option Addr) (n c : Nat), v = Thv x (.slice A n c) ∧ thWf x ∧ StP W A n c ∧
      ∀ W' : World, Below W.heap.size W W' → ∀ sp : Nat → Bool, (∀ q ∈ p, sp q.block = true) → DataW.Trod enc Try.prog W' 0 sp true 36 v d p := by
  obtain ⟨cs, rfl, hsz⟩ := okWide_struct Try.underlying36 hv
  rw [cells36] at hsz
  obtain ⟨n, hn⟩ := h
  obtain ⟨xs, k, -, hy, -, hxl, hf⟩ := DataW.trod_struct Try.underlying36 hn
  obtain ⟨cl⟩ := cs
  match cl, hsz, xs, hxl with
  | [v0, v1, v2, v3, v4, v5], _, [y0, y1, y2, y3, y4, y5], _ =>
    have g0 := hf 0 _ rfl
    have g1 := hf 1 _ rfl
    have g2 := hf 2 _ rfl
    have g3 := hf 3 _ rfl
    have g4 := hf 4 _ rfl
    have g5 := hf 5 _ rfl
    simp [Value.cells, cells3, cells4, cells24] at g0 g1 g2 g3 g4 g5
    obtain ⟨a, e0, rfl, w0⟩ := DataW.trod_int Try.underlying3 g0
    obtain ⟨b, e1, rfl, w1⟩ := DataW.trod_int Try.underlying3 g1
    obtain ⟨c, e2, rfl⟩ := DataW.trod_bool Try.underlying4 g2
    obtain ⟨e, e3, rfl⟩ := DataW.trod_bool Try.underlying4 g3
    obtain ⟨q, e4, rfl, w4⟩ := DataW.trod_int Try.underlying3 g4
    simp at e0 e1 e2 e3 e4
    subst e0 e1 e2 e3 e4
    obtain ⟨d5, p5⟩ := y5
    have hsl : ∃ (A : Option Addr) (len cap : Nat), v5 = .slice A len cap := by
      rcases DataW.trod_slice Try.underlying24 g5 with ⟨h1, -⟩ | ⟨a', len, cap, _, _, _, -, h1, -⟩
      · simp at h1; exact ⟨_, _, _, h1⟩
      · simp at h1; exact ⟨_, _, _, h1⟩
    have ht5 : DataW.Trod enc Try.prog W 0 (fun _ => true) true 24 v5 d5 p5 := by
      obtain ⟨A, len, cap, rfl⟩ := hsl
      exact ⟨k, by simpa [Value.cells] using g5⟩
    obtain ⟨A, len, cap, rfl, hst, hag⟩ := open_stones hsl ht5
    simp only [List.map_cons, List.map_nil, List.flatMap_cons, List.flatMap_nil, List.append_nil, List.nil_append, Prod.mk.injEq] at hy
    obtain ⟨rfl, rfl⟩ := hy
    refine ⟨⟨a, b, c, e, q⟩, A, len, cap, rfl, ⟨w0, w1, w4⟩, hst, fun W' hb sp hsp => ?_⟩
    obtain ⟨m, hm⟩ := hag W' hb sp hsp
    have hm0 : ∃ j, m = j + 1 := by
      cases m with
      | zero => simp [DataW.trod] at hm
      | succ j => exact ⟨j, rfl⟩
    obtain ⟨j, rfl⟩ := hm0
    refine ⟨j + 1 + 1, ?_⟩
    have hm' : DataW.trod enc Try.prog W' 0 sp true (j + 1) 24 [.slice A len cap] = some (d5, p) := by simpa [Value.cells] using hm
    have := trod_struct_mk (enc := enc) (w := W') (base := 0) (spare := sp) (held := true) (n := j + 1) (cs := (Thv ⟨a, b, c, e, q⟩ (.slice A len cap)).cells.toList) (xs := [(.lit (.int .i64 a), []), (.lit (.int .i64 b), []), (.lit (.bool c), []), (.lit (.bool e), []), (.lit (.int .i64 q), []), (d5, p)]) Try.underlying36 (by rw [cells36]; rfl) (by
      have hi : ∀ z : Int, (Lit.int .i64 z).wf = true → DataW.trod enc Try.prog W' 0 sp true (j + 1) 3 [.int .i64 z] = some (.lit (.int .i64 z), []) := fun z hz => by simp [DataW.trod, Try.underlying3, hz]
      have hbo : ∀ z : Bool, DataW.trod enc Try.prog W' 0 sp true (j + 1) 4 [.bool z] = some (.lit (.bool z), []) := fun z => by simp [DataW.trod, Try.underlying4]
      simp [Value.cells, cells3, cells4, cells24, hi a w0, hi b w1, hi q w4, hbo, hm'])
    simpa using this

theorem cells5 : Try.prog.cellsOf 5 = 1 := by kernel_rfl
theorem cells58 : Try.prog.cellsOf 58 = 3 := by kernel_rfl
set_option maxRecDepth 100000 in
/-- Three small numbers as a parameter. -/
theorem open_u8x3 {v : Value} {d : DataW H} {p : List MemPlace} {r : Reach} {b0 : Nat} (hv : Value.okWide Try.prog W r b0 58 v) (h : DataW.Trod enc Try.prog W base spare held 58 v d p) :
    ∃ x y z : Int, v = .agg #[.int .u8 x, .int .u8 y, .int .u8 z] ∧ p = [] ∧ ((0 ≤ x ∧ x ≤ 255) ∧ (0 ≤ y ∧ y ≤ 255) ∧ 0 ≤ z ∧ z ≤ 255) ∧ ∀ (W' : World) (b : Nat) (sp : Nat → Bool) (h' : Bool), DataW.Trod enc Try.prog W' b sp h' 58 v d [] := by
  obtain ⟨cs, rfl, hsz⟩ : ∃ cs, v = .agg cs ∧ cs.size = Try.prog.cellsOf 58 := by
    simp only [Value.okWide, Try.underlying58] at hv
    obtain ⟨cs, h1, h2, _⟩ := hv
    exact ⟨cs, h1, h2⟩
  rw [cells58] at hsz
  obtain ⟨n, hn⟩ := h
  obtain ⟨xs, k, -, hy, -, hxl, hf⟩ := DataW.trod_array Try.underlying58 hn
  obtain ⟨cl⟩ := cs
  match cl, hsz, xs, hxl with
  | [v0, v1, v2], _, [y0, y1, y2], _ =>
    have g0 := hf 0 (by omega)
    have g1 := hf 1 (by omega)
    have g2 := hf 2 (by omega)
    simp [Value.cells, cells5] at g0 g1 g2
    obtain ⟨a, e0, rfl, w0⟩ := DataW.trod_int Try.underlying5 g0
    obtain ⟨b, e1, rfl, w1⟩ := DataW.trod_int Try.underlying5 g1
    obtain ⟨c, e2, rfl, w2⟩ := DataW.trod_int Try.underlying5 g2
    simp at e0 e1 e2
    subst e0 e1 e2
    simp only [List.map_cons, List.map_nil, List.flatMap_cons, List.flatMap_nil, List.append_nil, Prod.mk.injEq] at hy
    obtain ⟨rfl, rfl⟩ := hy
    have bd : ∀ q : Int, (Lit.int .u8 q).wf = true → 0 ≤ q ∧ q ≤ 255 := fun q hq => by simpa [Lit.wf, IntKind.min, IntKind.max, IntKind.signed, IntKind.bits] using hq
    refine ⟨a, b, c, rfl, rfl, ⟨bd a w0, bd b w1, bd c w2⟩, fun W' b0 sp h' => ⟨2, ?_⟩⟩
    have e58 : DataW.trod enc Try.prog W' b0 sp h' 2 58 [.int .u8 a, .int .u8 b, .int .u8 c] = some (.agg [.lit (.int .u8 a), .lit (.int .u8 b), .lit (.int .u8 c)], []) := by
      have h1 : ∀ q : Int, (Lit.int .u8 q).wf = true → DataW.trod enc Try.prog W' b0 sp h' 1 5 [.int .u8 q] = some (.lit (.int .u8 q), []) := fun q hq => by simp [DataW.trod, Try.underlying5, hq]
      unfold DataW.trod
      rw [Try.underlying58]
      simp [cells58, cells5, List.range_succ, h1 a w0, h1 b w1, h1 c w2]
    simpa [Value.cells] using e58
end
end Go.Proofs.Ytomcpgdpjpjioaa
