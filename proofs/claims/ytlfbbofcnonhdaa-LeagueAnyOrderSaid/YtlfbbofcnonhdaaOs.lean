/- Parameters of the league's laws: what their reading gives, and that they are read again as they were. -/
import Derived.Test.YtlfbbofcnonhdaaRows
import Derived.Test.YtlfbbofcnonhdaaBc
import Derived.ProofKit
import Derived.OpenShut
import Derived.Deep.Slices
import Derived.Deep.Strs
import Derived.ChangeSame
import Derived.Lib.SmallJoins
namespace Go.Proofs.Ytlfbbofcnonhdaa
open Go.ChangeShapes Go.WideShapes Go.ChangeAt Go.RowKit Go.Deep

instance : Inhabited Re := ⟨⟨0, 0, 0, 0, 0, 0⟩⟩
/-- What an element's reading gives. -/
structure ElD {H : Type} (enc : TypeId × Value → H) {α : Type} (e k : Nat) (ec : α → List Value) (wf : α → Prop) (D : α → DataW H) : Prop where
  sz : Try.prog.cellsOf e = k
  op : ∀ (W : World) (base : Nat) (spare : Nat → Bool) (held : Bool) n cs y, DataW.trod enc Try.prog W base spare held n e cs = some y → ∃ x, cs = ec x ∧ wf x ∧ y = (D x, [])
  sh : ∃ m, ∀ (W : World) (base : Nat) (spare : Nat → Bool) (held : Bool) x, wf x → DataW.trod enc Try.prog W base spare held (m + 1) e (ec x) = some (D x, [])
section
variable {H : Type} {enc : TypeId × Value → H} {W : World} {base : Nat} {spare : Nat → Bool} {held : Bool}
theorem wfW {x : Int} : (Lit.int .i64 x).wf = true ↔ W64 x := by
  unfold W64
  simp [Lit.wf, IntKind.min, IntKind.max, IntKind.signed, IntKind.bits]
theorem cells_below {W W' : World} (hb : Below W.heap.size W W') {b n : Nat} {a : Addr} {cs : List Value} (h : W.cells? b a n = some cs) (ha : a.block < W.heap.size) : W'.cells? b a n = some cs := by
  have e : ∀ i, W'.cell? (a.add i) = W.cell? (a.add i) := fun i => by
    have hbk : (a.add i).block = a.block := by unfold Addr.add; split <;> rfl
    exact World.cell?_of_block (by rw [hbk]; exact hb.block _ ha)
  unfold World.cells? at h ⊢
  simp only [e]
  exact h
theorem cell_spot {W : World} {a : Addr} {v : Value} (h : W.cell? a = some v) : a.spot = none ∧ a.block < W.heap.size := by
  unfold World.cell? at h
  split at h
  · rename_i c t fz hh
    split at h
    · cases h
    · rename_i hs
      exact ⟨by simpa using hs, (Array.getElem?_eq_some_iff.1 hh).1⟩
  · cases h
set_option maxRecDepth 100000 in
/-- A slice as a parameter: of some length; if that is no greater than 2^48 it holds elements. -/
theorem open_row {α : Type} [Inhabited α] {t e k : Nat} {ec : α → List Value} {wf : α → Prop} {D0 : α → DataW H} (ht : Try.prog.underlying t = some (.slice e)) (E : ElD enc e k ec wf D0) (hk : ∀ x, (ec x).length = k) (h0k : 0 < k)
    {v : Value} {d : DataW H} {p : List MemPlace} (hv : ∃ (A : Option Addr) (len cap : Nat), v = .slice A len cap) (h : DataW.Trod enc Try.prog W 0 (fun _ => true) true t v d p) :
    ∃ (A : Option Addr) (len cap : Nat), v = .slice A len cap ∧ (len ≤ 281474976710656 → ∃ l : List α, l.length = len ∧ Arr k ec W v l ∧ ∀ s ∈ l, wf s) ∧
      ∀ W' : World, Below W.heap.size W W' → ∀ sp : Nat → Bool, (∀ q ∈ p, sp q.block = true) → DataW.Trod enc Try.prog W' 0 sp true t v d p := by
  obtain ⟨A, len, cap, rfl⟩ := hv
  obtain ⟨n, hn⟩ := h
  have hsz := E.sz
  rcases open_slice ht hn with ⟨h1, h2⟩ | ⟨a, len', cap', m, n', D, Pl, h1, hb, hl, hm, hmm, hx, hi⟩
  · simp only [Value.cells, List.cons.injEq, and_true, Value.slice.injEq] at h1
    obtain ⟨rfl, rfl, rfl⟩ := h1
    simp only [Prod.mk.injEq] at h2
    obtain ⟨rfl, rfl⟩ := h2
    exact ⟨_, _, _, rfl, fun _ => ⟨[], rfl, ⟨none, 0, rfl, Nat.le_refl _, ⟨Nat.zero_le _, Nat.zero_le _⟩, fun h => absurd rfl h⟩, nofun⟩, fun W' _ sp _ => shut_slice_nil ht⟩
  · simp only [Value.cells, List.cons.injEq, and_true, Value.slice.injEq] at h1
    obtain ⟨rfl, rfl, rfl⟩ := h1
    simp only [if_true] at hmm
    replace hmm := hmm.symm
    subst hmm
    rw [hsz] at hx hi
    have each : ∀ i, i < cap → ∃ s : α, W.cells? 0 (a.add (i * k)) k = some (ec s) ∧ wf s ∧ D i = D0 s ∧ Pl i = [] := by
      intro i hic
      obtain ⟨cs', h3, h4⟩ := hi i hic
      obtain ⟨s, rfl, hw, hy⟩ := E.op _ _ _ _ _ _ _ h4
      simp only [Prod.mk.injEq] at hy
      exact ⟨s, h3, hw, hy.1, hy.2⟩
    obtain ⟨S, hS⟩ := choose_lt each
    have eD : (List.range len).map D = (List.range len).map fun i => D0 (S i) := List.map_congr_left fun i hi => (hS i (by have := List.mem_range.1 hi; omega)).2.2.1
    have eR : (List.range (cap - len)).map (fun j => D (len + j)) = (List.range (cap - len)).map fun j => D0 (S (len + j)) := List.map_congr_left fun j hj => (hS (len + j) (by have := List.mem_range.1 hj; omega)).2.2.1
    have eP : (List.range cap).flatMap Pl = (List.range cap).flatMap fun _ => [] := flatMap_congr_range fun i hi => (hS i hi).2.2.2
    rw [eD, eR, eP] at hx
    simp only [Prod.mk.injEq] at hx
    obtain ⟨rfl, rfl⟩ := hx
    have first : ∀ i, i < cap → ∃ v, W.cell? (a.add (i * k)) = some v := by
      intro i hi
      have hc := (World.cells?_some (hS i hi).1).2.2 0 h0k
      rw [List.getElem?_eq_getElem (by rw [hk]; exact h0k)] at hc
      exact ⟨_, by simpa [Addr.add] using hc⟩
    refine ⟨_, _, _, rfl, fun hlen => ⟨(List.range len).map S, by simp, ?_, ?_⟩, fun W' hb' sp hsp => ?_⟩
    · refine ⟨some a, cap, by simp, by simpa using hl, ⟨by simpa using hlen, hm⟩, fun hne => ?_⟩
      have h0 : 0 < len := by
        rcases Nat.eq_zero_or_pos len with h | h
        · subst h; simp at hne
        · exact h
      obtain ⟨v0, c0⟩ := first 0 (by omega)
      have hsp := (cell_spot (by simpa [Addr.add] using c0)).1
      obtain ⟨b, o, sp⟩ := a
      simp only at hsp
      subst hsp
      refine ⟨b, o, rfl, fun j hj i hi => ?_⟩
      have hj' : j < len := by simpa using hj
      have hc := (World.cells?_some (hS j (by omega)).1).2.2
      have e : ((List.range len).map S)[j]'hj = S j := by simp
      rw [e, ← hc i hi, add_add]
      unfold Addr.add
      by_cases h0 : j * k + i = 0
      · rw [if_pos h0]; have h1 : j * k = 0 := by omega
        have : i = 0 := by omega
        subst this; rw [h1]; rfl
      · rw [if_neg h0, Nat.add_assoc]
    · intro s hs
      obtain ⟨i, hi, rfl⟩ := List.mem_map.1 hs
      exact (hS i (by have := List.mem_range.1 hi; omega)).2.1
    · rcases Nat.eq_zero_or_pos cap with h0 | h0
      · subst h0
        obtain rfl : len = 0 := by omega
        cases hs : sp a.block with
        | true =>
          have := shut_slice_whole (enc := enc) (w := W') (held := true) (base := 0) (P := Try.prog) (a := a) (len := 0) (cap := 0) ht (Nat.zero_le _) (Nat.le_refl _) (Nat.zero_le _) hs (fun i => D0 (S i)) (fun _ => []) (fun i hi => absurd hi (Nat.not_lt_zero _))
          rw [hsz] at this
          exact this
        | false =>
          have := shut_slice (enc := enc) (w := W') (held := true) (base := 0) (P := Try.prog) (a := a) (len := 0) (cap := 0) ht (Nat.zero_le _) (Nat.le_refl _) (Nat.zero_le _) hs (fun i => D0 (S i)) (fun _ => []) (fun i hi => absurd hi (Nat.not_lt_zero _))
          rw [hsz] at this
          exact this
      · obtain ⟨v0, c0⟩ := first 0 h0
        have hblk := (cell_spot (by simpa [Addr.add] using c0)).2
        have hs : sp a.block = true := hsp (.cell a.block (a.off + 0)) (by
          unfold MemPlace.row
          simp only [List.mem_append, List.mem_map, List.mem_range]
          exact .inl ⟨0, Nat.mul_pos h0 h0k, rfl⟩)
        obtain ⟨m, hm'⟩ := E.sh
        have := shut_slice_whole (enc := enc) (w := W') (held := true) (base := 0) (P := Try.prog) (a := a) (len := len) (cap := cap) ht (Nat.zero_le _) hl hm hs (fun i => D0 (S i)) (fun _ => []) (fun i hi => ⟨ec (S i), m + 1, by
          rw [hsz]
          refine cells_below hb' (hS i hi).1 ?_
          have : (a.add (i * k)).block = a.block := by unfold Addr.add; split <;> rfl
          rw [this]; exact hblk, hm' _ _ _ _ _ (hS i hi).2.1⟩)
        rw [hsz] at this
        exact this
set_option maxRecDepth 100000 in
/-- The like, however long. -/
theorem open_rowQ {α : Type} [Inhabited α] {t e k : Nat} {ec : α → List Value} {wf : α → Prop} {D0 : α → DataW H} (ht : Try.prog.underlying t = some (.slice e)) (E : ElD enc e k ec wf D0) (hk : ∀ x, (ec x).length = k) (h0k : 0 < k)
    {v : Value} {d : DataW H} {p : List MemPlace} (hv : ∃ (A : Option Addr) (len cap : Nat), v = .slice A len cap) (h : DataW.Trod enc Try.prog W 0 (fun _ => true) true t v d p) :
    ∃ (A : Option Addr) (len cap : Nat), v = .slice A len cap ∧ (len ≤ maxLen ∧ ∃ l : List α, l.length = len ∧ (l ≠ [] → ∃ b o, A = some ⟨b, o, none⟩ ∧ HoldL k ec W b o l) ∧ ∀ s ∈ l, wf s) ∧
      ∀ W' : World, Below W.heap.size W W' → ∀ sp : Nat → Bool, (∀ q ∈ p, sp q.block = true) → DataW.Trod enc Try.prog W' 0 sp true t v d p := by
  obtain ⟨A, len, cap, rfl⟩ := hv
  obtain ⟨n, hn⟩ := h
  have hsz := E.sz
  rcases open_slice ht hn with ⟨h1, h2⟩ | ⟨a, len', cap', m, n', D, Pl, h1, hb, hl, hm, hmm, hx, hi⟩
  · simp only [Value.cells, List.cons.injEq, and_true, Value.slice.injEq] at h1
    obtain ⟨rfl, rfl, rfl⟩ := h1
    simp only [Prod.mk.injEq] at h2
    obtain ⟨rfl, rfl⟩ := h2
    exact ⟨_, _, _, rfl, ⟨Nat.zero_le _, [], rfl, fun h => absurd rfl h, nofun⟩, fun W' _ sp _ => shut_slice_nil ht⟩
  · simp only [Value.cells, List.cons.injEq, and_true, Value.slice.injEq] at h1
    obtain ⟨rfl, rfl, rfl⟩ := h1
    simp only [if_true] at hmm
    replace hmm := hmm.symm
    subst hmm
    rw [hsz] at hx hi
    have each : ∀ i, i < cap → ∃ s : α, W.cells? 0 (a.add (i * k)) k = some (ec s) ∧ wf s ∧ D i = D0 s ∧ Pl i = [] := by
      intro i hic
      obtain ⟨cs', h3, h4⟩ := hi i hic
      obtain ⟨s, rfl, hw, hy⟩ := E.op _ _ _ _ _ _ _ h4
      simp only [Prod.mk.injEq] at hy
      exact ⟨s, h3, hw, hy.1, hy.2⟩
    obtain ⟨S, hS⟩ := choose_lt each
    have eD : (List.range len).map D = (List.range len).map fun i => D0 (S i) := List.map_congr_left fun i hi => (hS i (by have := List.mem_range.1 hi; omega)).2.2.1
    have eR : (List.range (cap - len)).map (fun j => D (len + j)) = (List.range (cap - len)).map fun j => D0 (S (len + j)) := List.map_congr_left fun j hj => (hS (len + j) (by have := List.mem_range.1 hj; omega)).2.2.1
    have eP : (List.range cap).flatMap Pl = (List.range cap).flatMap fun _ => [] := flatMap_congr_range fun i hi => (hS i hi).2.2.2
    rw [eD, eR, eP] at hx
    simp only [Prod.mk.injEq] at hx
    obtain ⟨rfl, rfl⟩ := hx
    have first : ∀ i, i < cap → ∃ v, W.cell? (a.add (i * k)) = some v := by
      intro i hi
      have hc := (World.cells?_some (hS i hi).1).2.2 0 h0k
      rw [List.getElem?_eq_getElem (by rw [hk]; exact h0k)] at hc
      exact ⟨_, by simpa [Addr.add] using hc⟩
    refine ⟨_, _, _, rfl, ⟨Nat.le_trans hl hm, (List.range len).map S, by simp, ?_, ?_⟩, fun W' hb' sp hsp => ?_⟩
    · intro hne
      have h0 : 0 < len := by
        rcases Nat.eq_zero_or_pos len with h | h
        · subst h; simp at hne
        · exact h
      obtain ⟨v0, c0⟩ := first 0 (by omega)
      have hsp := (cell_spot (by simpa [Addr.add] using c0)).1
      obtain ⟨b, o, sp⟩ := a
      simp only at hsp
      subst hsp
      refine ⟨b, o, rfl, fun j hj i hi => ?_⟩
      have hj' : j < len := by simpa using hj
      have hc := (World.cells?_some (hS j (by omega)).1).2.2
      have e : ((List.range len).map S)[j]'hj = S j := by simp
      rw [e, ← hc i hi, add_add]
      unfold Addr.add
      by_cases h0 : j * k + i = 0
      · rw [if_pos h0]; have h1 : j * k = 0 := by omega
        have : i = 0 := by omega
        subst this; rw [h1]; rfl
      · rw [if_neg h0, Nat.add_assoc]
    · intro s hs
      obtain ⟨i, hi, rfl⟩ := List.mem_map.1 hs
      exact (hS i (by have := List.mem_range.1 hi; omega)).2.1
    · rcases Nat.eq_zero_or_pos cap with h0 | h0
      · subst h0
        obtain rfl : len = 0 := by omega
        cases hs : sp a.block with
        | true =>
          have := shut_slice_whole (enc := enc) (w := W') (held := true) (base := 0) (P := Try.prog) (a := a) (len := 0) (cap := 0) ht (Nat.zero_le _) (Nat.le_refl _) (Nat.zero_le _) hs (fun i => D0 (S i)) (fun _ => []) (fun i hi => absurd hi (Nat.not_lt_zero _))
          rw [hsz] at this
          exact this
        | false =>
          have := shut_slice (enc := enc) (w := W') (held := true) (base := 0) (P := Try.prog) (a := a) (len := 0) (cap := 0) ht (Nat.zero_le _) (Nat.le_refl _) (Nat.zero_le _) hs (fun i => D0 (S i)) (fun _ => []) (fun i hi => absurd hi (Nat.not_lt_zero _))
          rw [hsz] at this
          exact this
      · obtain ⟨v0, c0⟩ := first 0 h0
        have hblk := (cell_spot (by simpa [Addr.add] using c0)).2
        have hs : sp a.block = true := hsp (.cell a.block (a.off + 0)) (by
          unfold MemPlace.row
          simp only [List.mem_append, List.mem_map, List.mem_range]
          exact .inl ⟨0, Nat.mul_pos h0 h0k, rfl⟩)
        obtain ⟨m, hm'⟩ := E.sh
        have := shut_slice_whole (enc := enc) (w := W') (held := true) (base := 0) (P := Try.prog) (a := a) (len := len) (cap := cap) ht (Nat.zero_le _) hl hm hs (fun i => D0 (S i)) (fun _ => []) (fun i hi => ⟨ec (S i), m + 1, by
          rw [hsz]
          refine cells_below hb' (hS i hi).1 ?_
          have : (a.add (i * k)).block = a.block := by unfold Addr.add; split <;> rfl
          rw [this]; exact hblk, hm' _ _ _ _ _ (hS i hi).2.1⟩)
        rw [hsz] at this
        exact this
theorem clO3 : Try.prog.cellsOf 3 = 1 := by kernel_rfl
theorem clO4 : Try.prog.cellsOf 4 = 1 := by kernel_rfl
theorem clO5 : Try.prog.cellsOf 5 = 1 := by kernel_rfl
theorem clO42 : Try.prog.cellsOf 42 = 2 := by kernel_rfl
theorem clO56 : Try.prog.cellsOf 56 = 6 := by kernel_rfl
theorem clO80 : Try.prog.cellsOf 80 = 2 := by kernel_rfl
theorem clO89 : Try.prog.cellsOf 89 = 2 := by kernel_rfl
theorem clO90 : Try.prog.cellsOf 90 = 4 := by kernel_rfl
def dI' (x : Int) : DataW H := .lit (.int .i64 x)
def dP (x : Int × Int) : DataW H := .agg [.lit (.int .i64 x.1), .lit (.int .i64 x.2)]
def dRe (x : Re) : DataW H := .agg [.lit (.int .i64 x.a), .lit (.int .i64 x.b), dP (x.p0, x.p1), dP (x.m0, x.m1)]
def dG (g : Gm) : DataW H := .agg [dP g.1, dP g.2]
theorem el3 : ElD enc 3 1 eI W64 dI' :=
  ⟨clO3, fun W base spare held n cs y h => by
    obtain ⟨x, rfl, rfl, w⟩ := DataW.trod_int Try.underlying3 h
    exact ⟨x, rfl, wfW.1 w, rfl⟩, 0, fun W base spare held x hx => by
    simp [DataW.trod, eI, dI', Try.underlying3, wfW.2 hx]⟩
theorem el5 : ElD enc 5 1 (fun x : Int => [.int .u8 x]) (fun x => 0 ≤ x ∧ x ≤ 255) (fun x => .lit (.int .u8 x)) := by
  have bd : ∀ q : Int, (Lit.int .u8 q).wf = true ↔ 0 ≤ q ∧ q ≤ 255 := fun q => by simp [Lit.wf, IntKind.min, IntKind.max, IntKind.signed, IntKind.bits]
  exact ⟨clO5, fun W base spare held n cs y h => by
    obtain ⟨x, rfl, rfl, w⟩ := DataW.trod_int Try.underlying5 h
    exact ⟨x, rfl, (bd x).1 w, rfl⟩, 0, fun W base spare held x hx => by
    simp [DataW.trod, Try.underlying5, (bd x).2 hx]⟩
theorem el4 : ElD enc 4 1 (fun x : Bool => [.bool x]) (fun _ => True) (fun x => .lit (.bool x)) :=
  ⟨clO4, fun W base spare held n cs y h => by
    obtain ⟨x, rfl, rfl⟩ := DataW.trod_bool Try.underlying4 h
    exact ⟨x, rfl, trivial, rfl⟩, 0, fun W base spare held x hx => by
    simp [DataW.trod, Try.underlying4]⟩
set_option maxRecDepth 100000 in
theorem el42 : ElD enc 42 2 eP W2 dP :=
  ⟨clO42, fun W base spare held n cs y h => by
    obtain ⟨xs, k, -, hy, hlen, hxl, hf⟩ := DataW.trod_array Try.underlying42 h
    rw [clO42] at hlen
    match cs, hlen, xs, hxl with
    | [v0, v1], _, [y0, y1], _ =>
      have g0 := hf 0 (by omega)
      have g1 := hf 1 (by omega)
      simp [clO3] at g0 g1
      obtain ⟨a, e0, rfl, w0⟩ := DataW.trod_int Try.underlying3 g0
      obtain ⟨b, e1, rfl, w1⟩ := DataW.trod_int Try.underlying3 g1
      simp at e0 e1
      subst e0 e1
      exact ⟨(a, b), rfl, ⟨wfW.1 w0, wfW.1 w1⟩, hy⟩, 1, fun W base spare held x hx => by
    have h1 : ∀ q : Int, W64 q → DataW.trod enc Try.prog W base spare held 1 3 [.int .i64 q] = some (.lit (.int .i64 q), []) := fun q hq => by simp [DataW.trod, Try.underlying3, wfW.2 hq]
    unfold DataW.trod
    rw [Try.underlying42]
    simp [eP, dP, clO42, clO3, List.range_succ, h1 _ hx.1, h1 _ hx.2]⟩
set_option maxRecDepth 100000 in
theorem el89 : ElD enc 89 2 eP W2 dP :=
  ⟨clO89, fun W base spare held n cs y h => by
    obtain ⟨xs, k, -, hy, hlen, hxl, hf⟩ := DataW.trod_struct Try.underlying89 h
    rw [clO89] at hlen
    match cs, hlen, xs, hxl with
    | [v0, v1], _, [y0, y1], _ =>
      have g0 := hf 0 _ rfl
      have g1 := hf 1 _ rfl
      simp [clO3] at g0 g1
      obtain ⟨a, e0, rfl, w0⟩ := DataW.trod_int Try.underlying3 g0
      obtain ⟨b, e1, rfl, w1⟩ := DataW.trod_int Try.underlying3 g1
      simp at e0 e1
      subst e0 e1
      exact ⟨(a, b), rfl, ⟨wfW.1 w0, wfW.1 w1⟩, hy⟩, 1, fun W base spare held x hx => by
    exact trod_struct2_mk (y0 := (.lit (.int .i64 x.1), [])) (y1 := (.lit (.int .i64 x.2), [])) Try.underlying89 (by rw [clO89]; rfl) (by simp [clO3, eP, DataW.trod, Try.underlying3, wfW.2 hx.1]) (by simp [clO3, eP, DataW.trod, Try.underlying3, wfW.2 hx.2])⟩
set_option maxRecDepth 100000 in
theorem el80 : ElD enc 80 2 eP W2 dP :=
  ⟨clO80, fun W base spare held n cs y h => by
    obtain ⟨xs, k, -, hy, hlen, hxl, hf⟩ := DataW.trod_struct Try.underlying80 h
    rw [clO80] at hlen
    match cs, hlen, xs, hxl with
    | [v0, v1], _, [y0, y1], _ =>
      have g0 := hf 0 _ rfl
      have g1 := hf 1 _ rfl
      simp [clO3] at g0 g1
      obtain ⟨a, e0, rfl, w0⟩ := DataW.trod_int Try.underlying3 g0
      obtain ⟨b, e1, rfl, w1⟩ := DataW.trod_int Try.underlying3 g1
      simp at e0 e1
      subst e0 e1
      exact ⟨(a, b), rfl, ⟨wfW.1 w0, wfW.1 w1⟩, hy⟩, 1, fun W base spare held x hx => by
    exact trod_struct2_mk (y0 := (.lit (.int .i64 x.1), [])) (y1 := (.lit (.int .i64 x.2), [])) Try.underlying80 (by rw [clO80]; rfl) (by simp [clO3, eP, DataW.trod, Try.underlying3, wfW.2 hx.1]) (by simp [clO3, eP, DataW.trod, Try.underlying3, wfW.2 hx.2])⟩
set_option maxRecDepth 100000 in
theorem el90 : ElD enc 90 4 eG (fun g => W2 g.1 ∧ W2 g.2) dG :=
  ⟨clO90, fun W base spare held n cs y h => by
    obtain ⟨xs, k, -, hy, hlen, hxl, hf⟩ := DataW.trod_array Try.underlying90 h
    rw [clO90] at hlen
    match cs, hlen, xs, hxl with
    | [v0, v1, v2, v3], _, [y0, y1], _ =>
      have g0 := hf 0 (by omega)
      have g1 := hf 1 (by omega)
      simp [clO89] at g0 g1
      obtain ⟨a, e0, w0, rfl⟩ := el89.op _ _ _ _ _ _ _ g0
      obtain ⟨b, e1, w1, rfl⟩ := el89.op _ _ _ _ _ _ _ g1
      simp [eP] at e0 e1
      obtain ⟨rfl, rfl⟩ := e0
      obtain ⟨rfl, rfl⟩ := e1
      exact ⟨(a, b), rfl, ⟨w0, w1⟩, hy⟩, (el89 (enc := enc)).sh.choose + 1, fun W base spare held x hx => by
    have h1 := (el89 (enc := enc)).sh.choose_spec
    generalize (el89 (enc := enc)).sh.choose = m at h1 ⊢
    have q1 := h1 W base spare held x.1 hx.1
    have q2 := h1 W base spare held x.2 hx.2
    unfold eP at q1 q2
    unfold DataW.trod
    rw [Try.underlying90]
    simp [eG, dG, clO90, clO89, List.range_succ, q1, q2]⟩
set_option maxRecDepth 100000 in
theorem el56 : ElD enc 56 6 eR W6 dRe :=
  ⟨clO56, fun W base spare held n cs y h => by
    obtain ⟨xs, k, -, hy, hlen, hxl, hf⟩ := DataW.trod_struct Try.underlying56 h
    rw [clO56] at hlen
    match cs, hlen, xs, hxl with
    | [v0, v1, v2, v3, v4, v5], _, [y0, y1, y2, y3], _ =>
      have g0 := hf 0 _ rfl
      have g1 := hf 1 _ rfl
      have g2 := hf 2 _ rfl
      have g3 := hf 3 _ rfl
      simp [clO3, clO42] at g0 g1 g2 g3
      obtain ⟨a, e0, rfl, w0⟩ := DataW.trod_int Try.underlying3 g0
      obtain ⟨b, e1, rfl, w1⟩ := DataW.trod_int Try.underlying3 g1
      obtain ⟨p, e2, w2, rfl⟩ := el42.op _ _ _ _ _ _ _ g2
      obtain ⟨q, e3, w3, rfl⟩ := el42.op _ _ _ _ _ _ _ g3
      simp [eP] at e0 e1 e2 e3
      obtain ⟨rfl, rfl⟩ := e2
      obtain ⟨rfl, rfl⟩ := e3
      subst e0 e1
      exact ⟨⟨a, b, p.1, p.2, q.1, q.2⟩, rfl, ⟨⟨wfW.1 w0, wfW.1 w1⟩, w2, w3⟩, hy⟩, (el42 (enc := enc)).sh.choose + 1, fun W base spare held x hx => by
    have h1 := (el42 (enc := enc)).sh.choose_spec
    generalize (el42 (enc := enc)).sh.choose = m at h1 ⊢
    have q1 := h1 W base spare held (x.p0, x.p1) hx.2.1
    have q2 := h1 W base spare held (x.m0, x.m1) hx.2.2
    unfold eP at q1 q2
    have h3 : ∀ q : Int, W64 q → DataW.trod enc Try.prog W base spare held (m + 1) 3 [.int .i64 q] = some (.lit (.int .i64 q), []) := fun q hq => by simp [DataW.trod, Try.underlying3, wfW.2 hq]
    exact Go.Joins.trod_struct4_mk (y0 := (.lit (.int .i64 x.a), [])) (y1 := (.lit (.int .i64 x.b), [])) (y2 := (dP (x.p0, x.p1), [])) (y3 := (dP (x.m0, x.m1), [])) Try.underlying56 (by rw [clO56]; rfl) (by simpa [clO3, eR] using h3 _ hx.1.1) (by simpa [clO3, eR] using h3 _ hx.1.2) (by simpa [clO42, eR] using q1) (by simpa [clO42, eR] using q2)⟩
theorem clO22 : Try.prog.cellsOf 22 = 1 := by kernel_rfl
theorem clO23 : Try.prog.cellsOf 23 = 1 := by kernel_rfl
theorem clO25 : Try.prog.cellsOf 25 = 3 := by kernel_rfl
set_option maxRecDepth 100000 in
/-- A bracket as a parameter. -/
theorem open_bracket {v : Value} {d : DataW H} {p : List MemPlace} {r : Reach} {b0 : Nat} (hv : Value.okWide Try.prog W r b0 25 v) (h : DataW.Trod enc Try.prog W 0 (fun _ => true) true 25 v d p) :
    ∃ (T : Int) (A : Option Addr) (n c : Nat) (A2 : Option Addr) (n2 c2 : Nat), v = Brv T A n c A2 n2 c2 ∧ W64 T ∧
      (n ≤ 281474976710656 → ∃ l : List Gm, l.length = n ∧ Arr 4 eG W (.slice A n c) l ∧ ∀ g ∈ l, W2 g.1 ∧ W2 g.2) ∧ (n2 ≤ 281474976710656 → ∃ l : List (Int × Int), l.length = n2 ∧ Arr 2 eP W (.slice A2 n2 c2) l ∧ ∀ x ∈ l, W2 x) ∧
      ∀ W' : World, Below W.heap.size W W' → ∀ sp : Nat → Bool, (∀ q ∈ p, sp q.block = true) → DataW.Trod enc Try.prog W' 0 sp true 25 v d p := by
  obtain ⟨cs, rfl, hsz⟩ := okWide_struct Try.underlying25 hv
  rw [clO25] at hsz
  obtain ⟨n, hn⟩ := h
  obtain ⟨xs, k, -, hy, -, hxl, hf⟩ := DataW.trod_struct Try.underlying25 hn
  obtain ⟨cl⟩ := cs
  match cl, hsz, xs, hxl with
  | [v0, v1, v2], _, [y0, y1, y2], _ =>
    have g0 := hf 0 _ rfl
    have g1 := hf 1 _ rfl
    have g2 := hf 2 _ rfl
    simp [Value.cells, clO3, clO22, clO23] at g0 g1 g2
    obtain ⟨a, e0, rfl, w0⟩ := DataW.trod_int Try.underlying3 g0
    simp at e0
    subst e0
    obtain ⟨d1, p1⟩ := y1
    obtain ⟨d2, p2⟩ := y2
    have hs1 : ∃ (A : Option Addr) (len cap : Nat), v1 = .slice A len cap := by
      rcases DataW.trod_slice Try.underlying22 g1 with ⟨h1, -⟩ | ⟨a', len, cap, _, _, _, -, h1, -⟩
      · simp at h1; exact ⟨_, _, _, h1⟩
      · simp at h1; exact ⟨_, _, _, h1⟩
    have hs2 : ∃ (A : Option Addr) (len cap : Nat), v2 = .slice A len cap := by
      rcases DataW.trod_slice Try.underlying23 g2 with ⟨h1, -⟩ | ⟨a', len, cap, _, _, _, -, h1, -⟩
      · simp at h1; exact ⟨_, _, _, h1⟩
      · simp at h1; exact ⟨_, _, _, h1⟩
    have ht1 : DataW.Trod enc Try.prog W 0 (fun _ => true) true 22 v1 d1 p1 := by
      obtain ⟨A, len, cap, rfl⟩ := hs1
      exact ⟨k, by simpa [Value.cells] using g1⟩
    have ht2 : DataW.Trod enc Try.prog W 0 (fun _ => true) true 23 v2 d2 p2 := by
      obtain ⟨A, len, cap, rfl⟩ := hs2
      exact ⟨k, by simpa [Value.cells] using g2⟩
    obtain ⟨A, n1, c1, rfl, hst1, hag1⟩ := open_row Try.underlying22 el90 (fun _ => rfl) (by decide) hs1 ht1
    obtain ⟨A2, n2, c2, rfl, hst2, hag2⟩ := open_row Try.underlying23 el89 (fun _ => rfl) (by decide) hs2 ht2
    simp only [List.map_cons, List.map_nil, List.flatMap_cons, List.flatMap_nil, List.append_nil, List.nil_append, Prod.mk.injEq] at hy
    obtain ⟨rfl, rfl⟩ := hy
    refine ⟨a, A, n1, c1, A2, n2, c2, rfl, wfW.1 w0, hst1, hst2, fun W' hb sp hsp => ?_⟩
    obtain ⟨m1, hm1⟩ := hag1 W' hb sp (fun q hq => hsp q (by simp [hq]))
    obtain ⟨m2, hm2⟩ := hag2 W' hb sp (fun q hq => hsp q (by simp [hq]))
    have q1 : DataW.trod enc Try.prog W' 0 sp true (m1 + m2 + 1) 22 [.slice A n1 c1] = some (d1, p1) := DataW.trod_le (show m1 ≤ m1 + m2 + 1 by omega) (by simpa [Value.cells] using hm1)
    have q2 : DataW.trod enc Try.prog W' 0 sp true (m1 + m2 + 1) 23 [.slice A2 n2 c2] = some (d2, p2) := DataW.trod_le (show m2 ≤ m1 + m2 + 1 by omega) (by simpa [Value.cells] using hm2)
    have q0 : DataW.trod enc Try.prog W' 0 sp true (m1 + m2 + 1) 3 [.int .i64 a] = some (.lit (.int .i64 a), []) := by simp [DataW.trod, Try.underlying3, w0]
    refine ⟨m1 + m2 + 1 + 1, ?_⟩
    have := trod_struct_mk (enc := enc) (w := W') (base := 0) (spare := sp) (held := true) (n := m1 + m2 + 1) (cs := (Brv a A n1 c1 A2 n2 c2).cells.toList) (xs := [(.lit (.int .i64 a), []), (d1, p1), (d2, p2)]) Try.underlying25 (by rw [clO25]; rfl) (by
      simp [Value.cells, clO3, clO22, clO23, q0, q1, q2])
    simpa using this
end
end Go.Proofs.Ytlfbbofcnonhdaa
