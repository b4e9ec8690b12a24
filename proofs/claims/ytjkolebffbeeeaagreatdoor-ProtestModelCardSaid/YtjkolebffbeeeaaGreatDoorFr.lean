/- The frame of the rows: a world that holds what the rows list, and what the parameters' readings give. -/
import Derived.Test.YtjkolebffbeeeaaGreatDoorWl
import Derived.Test.YtjkolebffbeeeaaGreatDoorG13
import Derived.Test.YtjkolebffbeeeaaGreatDoorCards
import Derived.Test.YtjkolebffbeeeaaGreatDoorTie
import Derived.ProofKit
import Derived.LaidMore
import Derived.OpenShut
import Derived.Lay
import Derived.Deep.DeepHandedRow
import Derived.Shelf.Vars
import Derived.Stop.Joined
import Derived.Stop.LaidErr
import Derived.Lib.SmallJoins
namespace Go.Proofs.YtjkolebffbeeeaaGreatDoor
open Go.ChangeShapes Go.WideShapes Go.ChangeAt Go.RowKit

theorem own : ownKnob Tryz.prog.godebug = none := by kernel_rfl
/-- What every row lists. -/
abbrev laid7 : List (String × DataW Unit) := Rows.protestProofsRow.laid
theorem met7 (os : Os) (args : Array Value) : laidMetH Tryz.prog laid7 ((World.laidAll Tryz.prog os laid7).forCall (fun _ _ => 0) ⟨#[], args, []⟩).memory := by
  rw [MakeChecks.laidMetH_plain _ _ _ (by kernel_rfl)]; exact laidMet_laidAll _ (by kernel_rfl) (by kernel_rfl)
theorem shaped7 (os : Os) (args : Array Value) : ((World.laidAll Tryz.prog os laid7).forCall (fun _ _ => 0) ⟨#[], args, []⟩).Shaped Tryz.prog :=
  World.shaped_of_ZipB (by kernel_rfl) (by kernel_rfl)
/-- The plain wrap with both: what the row lists, and the world's shape. -/
theorem row_wrap {H : Type} {enc : TypeId × Value → H} {C : Checked} {os : Os} {f : FuncId} {fn : Func} {s : ChangeSpec} {X : World → Array Value → Prop} {a : Assume}
    (hX : ∀ (w w' : World) (args : Array Value), w.heap = w'.heap → X w args → X w' args)
    (own : ownKnob C.prog.godebug = none) (started : os.Started) (noInit : C.prog.inits.idxOf? f = none) (hfn : C.prog.funcs[f]? = some fn)
    (witness : ∃ (w : World) (tape : Tape) (i : Input), w.os = os ∧ (w.forCall tape i).Shaped C.prog ∧ i.vars = [] ∧ Input.okWide C.prog (w.forCall tape i) .any w.heap.size f i ∧
      ((s.pre enc C.prog fn [] false (w.forCall tape i).memory i.args ∧ X (w.forCall tape i).memory i.args) ∧ sizedMet enc C.prog fn (OpenSpec.ofChange s) false (w.forCall tape i).memory i.args) ∧ a.holds C.prog (lone (Frame.enter C.prog f i.args .normal) [] (w.forCall tape i)))
    (contract : ∀ (W : World) (base : Nat) (args : Array Value) (ds gs : List (DataW H)) (before : List MemPlace),
      (∀ (j : Nat) t v, fn.params[j]? = some t → args[j]? = some v → Value.okWide C.prog W .any base t v) →
      DataW.Whole enc C.prog fn.params.toList s.vars false W args.toList ds gs before → X W args → W.ShapedOpen C.prog →
      Calls C.prog f args W fun e W' => ∃ v, e = .returned v ∧ s.post enc C.prog fn false true false false W args v W') :
    ReturnsInHanded a C os f .any (fun w args => (s.pre enc C.prog fn [] false w args ∧ X w args) ∧ sizedMet enc C.prog fn (OpenSpec.ofChange s) false w args) (s.post enc C.prog fn false true false false) := by
  refine returnsInHanded_of_calls own started noInit witness ?_
  intro w tape i _ hsh _ hok hpre hholds
  obtain ⟨_, _, _, fn', hfn', _, _, _, _, hval⟩ := hok
  have e : fn' = fn := Option.some.inj (hfn'.symm.trans hfn)
  subst e
  obtain ⟨⟨⟨ds, gs, before, hw, hc⟩, hx⟩, hz⟩ := hpre
  have hw' := DataW.Whole.of_heap (w' := w.forCall tape i) (by rfl) hw
  refine (contract (w.forCall tape i) w.heap.size i.args ds gs before hval hw' (hX _ _ _ (by rfl) hx) hsh).mono fun e W' ⟨v, he, hp⟩ => ?_
  subst he
  exact ChangeSpec.post_blind hp
section
variable {H : Type} {enc : TypeId × Value → H}
set_option maxRecDepth 100000
theorem el_str : ElC Tryz.prog enc 9 (fun _ cs => ∃ x : ByteArray, cs = [.string x] ∧ x.size ≤ maxLen) := elStr Tryz.underlying9
theorem el_int : ElC Tryz.prog enc 3 (fun _ cs => ∃ x, cs = [.int .i64 x] ∧ (Lit.int .i64 x).wf = true) := elInt Tryz.underlying3
theorem el_u8 : ElC Tryz.prog enc 5 (fun _ cs => ∃ x, cs = [.int .u8 x] ∧ (Lit.int .u8 x).wf = true) := elInt Tryz.underlying5
theorem el_facts : ElC Tryz.prog enc 23 (fun W cs => ∃ p : Dv ByteArray, cs = [p.v] ∧ Arr 1 eS W p.v p.l ∧ p.n = p.l.length ∧ ∀ x ∈ p.l, okS x) :=
  elRow (wf := fun _ x => okS x) Tryz.underlying23 (by kernel_rfl) ES (by decide) (el_str.imp fun _ _ ⟨x, h1, h2⟩ => ⟨x, h1, h2⟩)
theorem el_steps : ElC Tryz.prog enc 24 (fun W cs => ∃ p : Dv Int, cs = [p.v] ∧ Arr 1 eI W p.v p.l ∧ p.n = p.l.length ∧ ∀ x ∈ p.l, (Lit.int .i64 x).wf = true) :=
  elRow (wf := fun _ x => (Lit.int .i64 x).wf = true) Tryz.underlying24 (by kernel_rfl) EI (by decide) (el_int.imp fun _ _ ⟨x, h1, h2⟩ => ⟨x, h1, h2⟩)
theorem fld {fs : Array Field} {Rs : Nat → World → List Value → Prop} {W : World} {cs : List Value} (h : ∀ (i : Nat) (f : Field), fs[i]? = some f → Rs i W ((cs.drop f.offset).take (Tryz.prog.cellsOf f.type))) (i : Nat) {f : Field} (hf : fs[i]? = some f) {n : Nat} (hn : Tryz.prog.cellsOf f.type = n) {c : List Value} (hc : (cs.drop f.offset).take n = c) : Rs i W c := by
  have := h i f hf; rw [hn, hc] at this; exact this
def clR (i : Nat) (W : World) (cs : List Value) : Prop := match i with
  | 0 | 5 => ∃ x : ByteArray, cs = [.string x] ∧ x.size ≤ maxLen
  | 1 | 2 => ∃ x, cs = [.int .i64 x] ∧ (Lit.int .i64 x).wf = true
  | _ => ∃ p : Dv ByteArray, cs = [p.v] ∧ Arr 1 eS W p.v p.l ∧ p.n = p.l.length ∧ ∀ x ∈ p.l, okS x
theorem el_cl : ElC Tryz.prog enc 40 (fun W cs => ∃ c : Cl, cs = eC c ∧ ClW W c) := by
  refine (elStruct (Rs := clR) Tryz.underlying40 (fun i f hi => ?_)).imp fun W cs ⟨hl, h⟩ => ?_
  · rcases i with _ | _ | _ | _ | _ | _ | i
    · obtain rfl := Option.some.inj hi; exact el_str
    · obtain rfl := Option.some.inj hi; exact el_int
    · obtain rfl := Option.some.inj hi; exact el_int
    · obtain rfl := Option.some.inj hi; exact el_facts
    · obtain rfl := Option.some.inj hi; exact el_facts
    · obtain rfl := Option.some.inj hi; exact el_str
    · cases hi
  · rw [show Tryz.prog.cellsOf 40 = 6 by kernel_rfl] at hl
    obtain ⟨c0, c1, c2, c3, c4, c5, rfl⟩ : ∃ c0 c1 c2 c3 c4 c5, cs = [c0, c1, c2, c3, c4, c5] := by
      match cs, hl with
      | [c0, c1, c2, c3, c4, c5], _ => exact ⟨c0, c1, c2, c3, c4, c5, rfl⟩
    have c9 : Tryz.prog.cellsOf 9 = 1 := by kernel_rfl
    have c3' : Tryz.prog.cellsOf 3 = 1 := by kernel_rfl
    have c23 : Tryz.prog.cellsOf 23 = 1 := by kernel_rfl
    obtain ⟨x0, e0, w0⟩ := fld (c := [c0]) h 0 rfl c9 rfl
    obtain ⟨x1, e1, w1⟩ := fld (c := [c1]) h 1 rfl c3' rfl
    obtain ⟨x2, e2, w2⟩ := fld (c := [c2]) h 2 rfl c3' rfl
    obtain ⟨p3, e3, a3, n3, w3⟩ := fld (c := [c3]) h 3 rfl c23 rfl
    obtain ⟨p4, e4, a4, n4, w4⟩ := fld (c := [c4]) h 4 rfl c23 rfl
    obtain ⟨x5, e5, w5⟩ := fld (c := [c5]) h 5 rfl c9 rfl
    obtain rfl := (List.cons.inj e0).1
    obtain rfl := (List.cons.inj e1).1
    obtain rfl := (List.cons.inj e2).1
    obtain rfl := (List.cons.inj e3).1
    obtain rfl := (List.cons.inj e4).1
    obtain rfl := (List.cons.inj e5).1
    exact ⟨⟨x0, x1, x2, p3, p4, x5⟩, rfl, a3, a4, w3, w4, w0, w5⟩
theorem el_book : ElC Tryz.prog enc 22 (fun W cs => ∃ p : Dv Cl, cs = [p.v] ∧ Arr 6 eC W p.v p.l ∧ p.n = p.l.length ∧ ∀ x ∈ p.l, ClW W x) :=
  elRow (wf := ClW) Tryz.underlying22 (by kernel_rfl) EC6 (by decide) el_cl
theorem el_pair : ElC Tryz.prog enc 52 (fun _ cs => ∃ x y, cs = [.int .i64 x, .int .i64 y]) := by
  refine (elArr Tryz.underlying52 el_int).imp fun W cs ⟨hl, h⟩ => ?_
  rw [show Tryz.prog.cellsOf 52 = 2 by kernel_rfl] at hl
  rw [show Tryz.prog.cellsOf 3 = 1 by kernel_rfl] at h
  obtain ⟨c0, c1, rfl⟩ : ∃ c0 c1, cs = [c0, c1] := by
    match cs, hl with
    | [c0, c1], _ => exact ⟨c0, c1, rfl⟩
  obtain ⟨x0, e0, -⟩ := h 0 (by decide)
  obtain ⟨x1, e1, -⟩ := h 1 (by decide)
  obtain rfl := (List.cons.inj e0).1
  obtain rfl := (List.cons.inj e1).1
  exact ⟨x0, x1, rfl⟩
/-- A parameter's reading again, behind the call. -/
abbrev Again (W : World) (t : TypeId) (v : Value) (d : DataW H) (p : List MemPlace) (enc : TypeId × Value → H) : Prop := ∀ W' : World, Below W.heap.size W W' → ∀ sp : Nat → Bool, (∀ q ∈ p, sp q.block = true) → DataW.Trod enc Tryz.prog W' 0 sp true t v d p
variable {W : World} {base : Nat} {v : Value} {d : DataW H} {p : List MemPlace}
theorem open_book (hv : Value.okWide Tryz.prog W .any base 22 v) (h : DataW.Trod enc Tryz.prog W 0 (fun _ => true) true 22 v d p) : ∃ (A : Option Addr) (Bk : List Cl) (c : Nat), v = .slice A Bk.length c ∧ BkW W Bk A c ∧ Again W 22 v d p enc := by
  obtain ⟨a, n, k, rfl⟩ := okWide_slice Tryz.underlying22 hv
  obtain ⟨⟨⟨A, m, c, l⟩, e, h1, hn, h2⟩, h3⟩ := el_book.trod h
  obtain ⟨rfl, rfl, rfl⟩ : a = A ∧ n = m ∧ k = c := by simpa [Value.cells] using e
  dsimp only at hn; subst hn
  exact ⟨_, l, _, rfl, ⟨h1, h2⟩, h3⟩
theorem open_facts (hv : Value.okWide Tryz.prog W .any base 23 v) (h : DataW.Trod enc Tryz.prog W 0 (fun _ => true) true 23 v d p) : ∃ (A : Option Addr) (l : List ByteArray) (c : Nat), v = .slice A l.length c ∧ Arr 1 eS W (.slice A l.length c) l ∧ Again W 23 v d p enc := by
  obtain ⟨a, n, k, rfl⟩ := okWide_slice Tryz.underlying23 hv
  obtain ⟨⟨⟨A, m, c, l⟩, e, h1, hn, h2⟩, h3⟩ := el_facts.trod h
  obtain ⟨rfl, rfl, rfl⟩ : a = A ∧ n = m ∧ k = c := by simpa [Value.cells] using e
  dsimp only at hn; subst hn
  exact ⟨_, l, _, rfl, h1, h3⟩
theorem open_steps (hv : Value.okWide Tryz.prog W .any base 24 v) (h : DataW.Trod enc Tryz.prog W 0 (fun _ => true) true 24 v d p) : ∃ (A : Option Addr) (l : List Int) (c : Nat), v = .slice A l.length c ∧ Arr 1 eI W (.slice A l.length c) l ∧ Again W 24 v d p enc := by
  obtain ⟨a, n, k, rfl⟩ := okWide_slice Tryz.underlying24 hv
  obtain ⟨⟨⟨A, m, c, l⟩, e, h1, hn, h2⟩, h3⟩ := el_steps.trod h
  obtain ⟨rfl, rfl, rfl⟩ : a = A ∧ n = m ∧ k = c := by simpa [Value.cells] using e
  dsimp only at hn; subst hn
  exact ⟨_, l, _, rfl, h1, h3⟩
theorem open_str (hv : Value.okWide Tryz.prog W .any base 9 v) (h : DataW.Trod enc Tryz.prog W 0 (fun _ => true) true 9 v d p) : ∃ x : ByteArray, v = .string x ∧ okS x ∧ Again W 9 v d p enc := by
  obtain ⟨a, rfl⟩ := okWide_string Tryz.underlying9 hv
  obtain ⟨⟨x, e, h1⟩, h3⟩ := el_str.trod h
  obtain rfl : a = x := by simpa [Value.cells] using e
  exact ⟨_, rfl, h1, h3⟩
theorem open_num (hv : Value.okWide Tryz.prog W .any base 3 v) (h : DataW.Trod enc Tryz.prog W 0 (fun _ => true) true 3 v d p) : ∃ x : Int, v = .int .i64 x ∧ Again W 3 v d p enc := by
  obtain ⟨a, rfl⟩ := okWide_int Tryz.underlying3 hv
  exact ⟨_, rfl, (el_int.trod h).2⟩
theorem open_byte (hv : Value.okWide Tryz.prog W .any base 5 v) (h : DataW.Trod enc Tryz.prog W 0 (fun _ => true) true 5 v d p) : ∃ x : Int, v = .int .u8 x ∧ (Lit.int .u8 x).wf = true ∧ Again W 5 v d p enc := by
  obtain ⟨a, rfl⟩ := okWide_int Tryz.underlying5 hv
  obtain ⟨⟨x, e, h1⟩, h3⟩ := el_u8.trod h
  obtain rfl : a = x := by simpa [Value.cells] using e
  exact ⟨_, rfl, h1, h3⟩
theorem open_cl (hv : Value.okWide Tryz.prog W .any base 40 v) (h : DataW.Trod enc Tryz.prog W 0 (fun _ => true) true 40 v d p) : ∃ c : Cl, v = Clv c ∧ ClW W c ∧ Again W 40 v d p enc := by
  obtain ⟨cs, rfl, -⟩ := okWide_struct Tryz.underlying40 hv
  obtain ⟨⟨c, e, h1⟩, h3⟩ := el_cl.trod h
  have e' : cs.toList = eC c := e
  exact ⟨c, by rw [show cs = (eC c).toArray by rw [← e']]; rfl, h1, h3⟩
theorem open_pair (hv : Value.okWide Tryz.prog W .any base 52 v) (h : DataW.Trod enc Tryz.prog W 0 (fun _ => true) true 52 v d p) : ∃ x y : Int, v = .agg #[.int .i64 x, .int .i64 y] ∧ Again W 52 v d p enc := by
  obtain ⟨cs, rfl⟩ : ∃ cs, v = .agg cs := by
    simp only [Value.okWide, Tryz.underlying52] at hv
    obtain ⟨cs, h1, -⟩ := hv
    exact ⟨cs, h1⟩
  obtain ⟨⟨x, y, e⟩, h3⟩ := el_pair.trod h
  have e' : cs.toList = [.int .i64 x, .int .i64 y] := e
  exact ⟨x, y, by rw [show cs = [Value.int .i64 x, .int .i64 y].toArray by rw [← e']], h3⟩
end
end Go.Proofs.YtjkolebffbeeeaaGreatDoor
