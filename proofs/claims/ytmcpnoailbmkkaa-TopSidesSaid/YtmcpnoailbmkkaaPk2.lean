/- Layers of the proofs, joined: G5 G6 Gt G7 G8 G9 G10 G11 R1 Ra Rb Rc Rd Re Rf Rg Rh Ri G12 Rj Rk Rl Rm Rn Ro Rp Sh. -/
import Derived.Test.YtmcpnoailbmkkaaPk1
import Derived.Test.YtmcpnoailbmkkaaProg
import Derived.WideKeyEntry
import Derived.Maps.RangeWalk
import Derived.RangeFuncIn
import Derived.RangeFuncRecord
import Derived.RangeFuncLeaves
import Derived.RangeFuncSeq
import Derived.Recover
import Derived.Scope
import Derived.Sort.CutIn
import Derived.Lib.UnsafeStr
import Derived.Lib.AppendStr
import Derived.Lib.MakeNoZero
import Derived.Laws.IdiomCopy
import Derived.Lib.SliceRun
import Derived.Shelf.SlSortCmp.WholeK
import Derived.Ground.SlsfProg
import Derived.Shelf.SlGeneric
/- The walk by live slots: drawn regions by a printed order; short rules; runs of steps; panics. Over any program. -/
namespace Go.Proofs.Ytmcpnoailbmkkaa
open Go Go.RowKit Go.Proofs Go.Shelf

section
variable {P : Program} {n : Nat} {B : Bs} {Q Q' : Exit → Act → World → Prop} {l l' : Sl} {H H' : List It} {ops : Array Oper} {rest : List Oper} {o : Oper} {c x y : Code} {ld lx ord : List Nat} {H0 Hx : List It} {fuel : Nat} {listed : Array Bool}
/-! ### Drawn regions -/
/-- ord: what is taken next (no part of what is said). -/
def JD (_ord : List Nat) (P : Program) (n : Nat) (B : Bs) (ops : Array Oper) (Q : Exit → Act → World → Prop) (ld : List Nat) (H0 : List It) (lx : List Nat) (Hx : List It) (fuel : Nat) (listed : Array Bool) (l : Sl) (H : List It) : Prop := JA P n B ops Q ld H0 lx Hx fuel listed l H
def okT (ops : Array Oper) (listed : Array Bool) (i : Nat) (L : List Nat) : Bool := Region.noSelect ops && (Region.free .any ops listed i && ((Region.ready .any ops listed).contains i && !L.contains i))
def okL (ops : Array Oper) (listed : Array Bool) (i : Nat) (L L' : List Nat) : Bool := Region.noSelect ops && (Region.free .any ops listed i && ((Region.ready .any ops listed).contains i && (L.contains i && !L'.contains i)))
theorem okT_out {i : Nat} {L : List Nat} (h : okT ops listed i L = true) : Region.noSelect ops = true ∧ Region.free .any ops listed i = true ∧ (Region.ready .any ops listed).contains i = true ∧ L.contains i = false := by
 unfold okT at h
 rw [Bool.and_eq_true, Bool.and_eq_true, Bool.and_eq_true, Bool.not_eq_true'] at h; exact h
theorem okL_out {i : Nat} {L L' : List Nat} (h : okL ops listed i L L' = true) : Region.noSelect ops = true ∧ Region.free .any ops listed i = true ∧ (Region.ready .any ops listed).contains i = true ∧ L.contains i = true ∧ L'.contains i = false := by
 unfold okL at h
 rw [Bool.and_eq_true, Bool.and_eq_true, Bool.and_eq_true, Bool.and_eq_true, Bool.not_eq_true'] at h; exact h
theorem xD {id : Nat} {ls : List Oper} (ord ld : List Nat) (h : JD ord P n B ls.toArray Q ld H [] [] ls.length (Array.replicate ls.length false) l H) (hm : P.follows .mixedOrders = true := by kernel_rfl) (hd : B.r = none ∨ ndL ls = true := by first | exact .inl rfl | exact .inr rfl) : J P n B (.region id ls.toArray true) Q l H := J_draw ld hm h (hd := hd)
theorem xDx {id : Nat} {ls : List Oper} (ord ld lx : List Nat) (Hx : List It) (h : JD ord P n B ls.toArray Q ld H lx Hx ls.length (Array.replicate ls.length false) l H) (hk : Pk Hx H := by repeat constructor) (hm : P.follows .mixedOrders = true := by kernel_rfl) (hd : B.r = none ∨ ndL ls = true := by first | exact .inl rfl | exact .inr rfl) : J P n B (.region id ls.toArray true) Q l H := J_drawX ld lx Hx hk hm h (hd := hd)
theorem xDy {id : Nat} {ls : List Oper} (ord ld : List Nat) (H0 : List It) (h : JD ord P n B ls.toArray Q ld H0 [] [] ls.length (Array.replicate ls.length false) l H) (hk : Pk H0 H := by repeat constructor) (hm : P.follows .mixedOrders = true := by kernel_rfl) (hd : B.r = none ∨ ndL ls = true := by first | exact .inl rfl | exact .inr rfl) : J P n B (.region id ls.toArray true) Q l H := J_drawY ld H0 hk hm h (hd := hd)
theorem dO (ord' : List Nat) (h : JD ord' P n B ops Q ld H0 lx Hx fuel listed l H) : JD ord P n B ops Q ld H0 lx Hx fuel listed l H := h
theorem dDone (h : JQ n B Q .normal l H) (hr : Region.ready .any ops listed = [] := by kernel_rfl) : JD [] P n B ops Q ld H0 lx Hx fuel listed l H := JA_done hr h
theorem wAny (h : WN ops n l o true := by first | exact wn0 rfl | exact wn_g rfl rfl rfl rfl) : WN ops n l o true := h
theorem wOff (h : WN ops n l o false := by first | exact wn_g rfl rfl rfl rfl | exact wn_u rfl rfl rfl) : WN ops n l o false := h
theorem dP {i d : Nat} {v : Value} (hi : ops[i]? = some o) (hv : RP P n l o v) (k : JD ord P n B ops Q ld H0 lx Hx fuel (listed.setIfInBounds i true) ((d, v) :: l) H) (hd : o.dst = some d := by rfl) (hc : okT ops listed i (ld ++ lx) = true := by kernel_rfl) (hW : WN ops n l o true := by exact wAny) (hn : Nat.ble n d = false := by rfl) :
  JD (i :: ord) P n B ops Q ld H0 lx Hx (fuel + 1) listed l H := by obtain ⟨h1, h2, h3, h4⟩ := okT_out hc; exact JA_takeP hi hd h1 h2 h3 h4 hW hv hn k
theorem dL {i d : Nat} {v : Value} (hi : ops[i]? = some o) (hv : RV P n B l H0 o v) (k : JD ord P n B ops Q ld H0 lx Hx fuel (listed.setIfInBounds i true) ((d, v) :: l) H) (hd : o.dst = some d := by rfl) (_hl : ld.contains i = true := by rfl) (hc : okL ops listed i ld lx = true := by kernel_rfl) (hk : Pk H0 H := by repeat constructor) (hW : WN ops n l o true := by exact wAny) (hn : Nat.ble n d = false := by rfl) :
  JD (i :: ord) P n B ops Q ld H0 lx Hx (fuel + 1) listed l H := by obtain ⟨h1, h2, h3, h4, h5⟩ := okL_out hc; exact JA_takeL hi hd h1 h2 h3 h4 h5 hk hW hv hn k
theorem dX {i d : Nat} {v : Value} (hi : ops[i]? = some o) (hv : RV P n B l Hx o v) (k : JD ord P n B ops Q ld H0 lx Hx fuel (listed.setIfInBounds i true) ((d, v) :: l) H) (hd : o.dst = some d := by rfl) (_hl : lx.contains i = true := by rfl) (hc : okL ops listed i lx ld = true := by kernel_rfl) (hk : Pk Hx H := by repeat constructor) (hW : WN ops n l o true := by exact wAny) (hn : Nat.ble n d = false := by rfl) :
  JD (i :: ord) P n B ops Q ld H0 lx Hx (fuel + 1) listed l H := by obtain ⟨h1, h2, h3, h4, h5⟩ := okL_out hc; exact JA_takeX hi hd h1 h2 h3 h5 h4 hk hW hv hn k
theorem dF {i d : Nat} (hi : ops[i]? = some o) (hW : WN ops n l o false) (k : JD ord P n B ops Q ld H0 lx Hx fuel (listed.setIfInBounds i true) ((d, undef) :: l) H) (hd : o.dst = some d := by rfl) (_hl : (ld ++ lx).contains i = false := by rfl) (hc : okT ops listed i (ld ++ lx) = true := by kernel_rfl) (hn : Nat.ble n d = false := by rfl) :
  JD (i :: ord) P n B ops Q ld H0 lx Hx (fuel + 1) listed l H := by obtain ⟨h1, h2, h3, h4⟩ := okT_out hc; exact JA_off hi hd h1 h2 h3 h4 hW hn k
theorem dFL {i d : Nat} (hi : ops[i]? = some o) (hW : WN ops n l o false) (k : JD ord P n B ops Q ld H0 lx Hx fuel (listed.setIfInBounds i true) ((d, undef) :: l) H) (hd : o.dst = some d := by rfl) (hl : lx.contains i = false := by rfl) (_hx : ld.contains i = true := by rfl) (hc : okL ops listed i ld lx = true := by kernel_rfl) (hk : Pk H0 H := by repeat constructor) (hn : Nat.ble n d = false := by rfl) :
  JD (i :: ord) P n B ops Q ld H0 lx Hx (fuel + 1) listed l H := by obtain ⟨h1, h2, h3, h4, h5⟩ := okL_out hc; exact JA_offL hi hd h1 h2 h3 hl hk hW hn k
theorem dFX {i d : Nat} (hi : ops[i]? = some o) (hW : WN ops n l o false) (k : JD ord P n B ops Q ld H0 lx Hx fuel (listed.setIfInBounds i true) ((d, undef) :: l) H) (hd : o.dst = some d := by rfl) (hl : ld.contains i = false := by rfl) (_hx : lx.contains i = true := by rfl) (hc : okL ops listed i lx ld = true := by kernel_rfl) (hk : Pk Hx H := by repeat constructor) (hn : Nat.ble n d = false := by rfl) :
  JD (i :: ord) P n B ops Q ld H0 lx Hx (fuel + 1) listed l H := by obtain ⟨h1, h2, h3, h4, h5⟩ := okL_out hc; exact JA_offX hi hd h1 h2 h3 hl hk hW hn k
/-- One operation alone may come up. -/
theorem dW {i : Nat} {m : Option It} {T : Type} {φ : T → Prop} {D : T → Sl} {G : T → List It} (hi : ops[i]? = some o) (h : OpW P n B m l H o φ D G) (k : ∀ t, φ t → JD ord P n B ops Q ld H0 lx Hx fuel (listed.setIfInBounds i true) (D t) (G t)) (hr : Region.ready .any ops listed = [i] := by kernel_rfl) (hm : Kp ops ld lx Hx H i m := by first | exact trivial | exact ⟨by kernel_rfl, .inl (rfl : waitsB _ [] _ = true)⟩ | exact ⟨by kernel_rfl, .inr ⟨rfl, by repeat constructor⟩⟩) (hW : WN ops n l o true := by exact wAny) :
  JD (i :: ord) P n B ops Q ld H0 lx Hx (fuel + 1) listed l H := JA_one hr hi hW h hm k
theorem dS {i : Nat} {m : Option It} {D : Option Addr → Nat → Sl} {G : Option Addr → Nat → List It} (hi : ops[i]? = some o) (h : OpS P n B m l H o D G) (k : ∀ A c, JD ord P n B ops Q ld H0 lx Hx fuel (listed.setIfInBounds i true) (D A c) (G A c)) (hr : Region.ready .any ops listed = [i] := by kernel_rfl) (hm : Kp ops ld lx Hx H i m := by first | exact trivial | exact ⟨by kernel_rfl, .inl (rfl : waitsB _ [] _ = true)⟩ | exact ⟨by kernel_rfl, .inr ⟨rfl, by repeat constructor⟩⟩) (hW : WN ops n l o true := by exact wAny) :
  JD (i :: ord) P n B ops Q ld H0 lx Hx (fuel + 1) listed l H := JA_oneS hr hi hW h hm k
theorem dV {i d : Nat} {v : Value} (hi : ops[i]? = some o) (hv : RV P n B l H o v) (k : JD ord P n B ops Q ld H0 lx Hx fuel (listed.setIfInBounds i true) ((d, v) :: l) H) (hd : o.dst = some d := by rfl) (hr : Region.ready .any ops listed = [i] := by kernel_rfl) (hW : WN ops n l o true := by exact wAny) (hn : Nat.ble n d = false := by rfl) :
  JD (i :: ord) P n B ops Q ld H0 lx Hx (fuel + 1) listed l H := JA_oneV hr hi hd hW hv hn k
theorem dDec {d : Nat} {p : Prop} [Decidable p] (h1 : p → JD ord P n B ops Q ld H0 lx Hx fuel listed ((d, .bool true) :: l) H) (h2 : ¬ p → JD ord P n B ops Q ld H0 lx Hx fuel listed ((d, .bool false) :: l) H) : JD ord P n B ops Q ld H0 lx Hx fuel listed ((d, .bool (decide p)) :: l) H := JA_dec h1 h2
theorem dBool {d : Nat} {b : Bool} (h1 : b = true → JD ord P n B ops Q ld H0 lx Hx fuel listed ((d, .bool true) :: l) H) (h2 : b = false → JD ord P n B ops Q ld H0 lx Hx fuel listed ((d, .bool false) :: l) H) : JD ord P n B ops Q ld H0 lx Hx fuel listed ((d, .bool b) :: l) H := JA_bool h1 h2
theorem dDecT {d : Nat} {p : Prop} [Decidable p] (h1 : JD ord P n B ops Q ld H0 lx Hx fuel listed ((d, .bool true) :: l) H) (hp : p := by omega) : JD ord P n B ops Q ld H0 lx Hx fuel listed ((d, .bool (decide p)) :: l) H := JA_decT hp h1
theorem dDecF {d : Nat} {p : Prop} [Decidable p] (h1 : JD ord P n B ops Q ld H0 lx Hx fuel listed ((d, .bool false) :: l) H) (hp : ¬ p := by omega) : JD ord P n B ops Q ld H0 lx Hx fuel listed ((d, .bool (decide p)) :: l) H := JA_decF hp h1
theorem dBoolT {d : Nat} {b : Bool} (h1 : JD ord P n B ops Q ld H0 lx Hx fuel listed ((d, .bool true) :: l) H) (hb : b = true := by assumption) : JD ord P n B ops Q ld H0 lx Hx fuel listed ((d, .bool b) :: l) H := JA_boolT hb h1
theorem dBoolF {d : Nat} {b : Bool} (h1 : JD ord P n B ops Q ld H0 lx Hx fuel listed ((d, .bool false) :: l) H) (hb : b = false := by assumption) : JD ord P n B ops Q ld H0 lx Hx fuel listed ((d, .bool b) :: l) H := JA_boolF hb h1
theorem dFact (h : (∃ w, Wd B H w) → JD ord P n B ops Q ld H0 lx Hx fuel listed l H) : JD ord P n B ops Q ld H0 lx Hx fuel listed l H := JA_fact h
/-! ### Plain regions -/
theorem aDecT {d : Nat} {p : Prop} [Decidable p] (h1 : JL P n B ops Q rest ((d, .bool true) :: l) H) (hp : p := by omega) : JL P n B ops Q rest ((d, .bool (decide p)) :: l) H := JL_decT hp h1
theorem aDecF {d : Nat} {p : Prop} [Decidable p] (h1 : JL P n B ops Q rest ((d, .bool false) :: l) H) (hp : ¬ p := by omega) : JL P n B ops Q rest ((d, .bool (decide p)) :: l) H := JL_decF hp h1
theorem aBoolT {d : Nat} {b : Bool} (h1 : JL P n B ops Q rest ((d, .bool true) :: l) H) (hb : b = true := by assumption) : JL P n B ops Q rest ((d, .bool b) :: l) H := JL_boolT hb h1
theorem aBoolF {d : Nat} {b : Bool} (h1 : JL P n B ops Q rest ((d, .bool false) :: l) H) (hb : b = false := by assumption) : JL P n B ops Q rest ((d, .bool b) :: l) H := JL_boolF hb h1
theorem aP {v : Value} {d : Nat} (hv : RP P n l o v) (k : JL P n B ops Q rest ((d, v) :: l) H) (hd : o.dst = some d := by rfl) (hW : WN ops n l o true := by exact wAny) (hn : Nat.ble n d = false := by rfl) : JL P n B ops Q (o :: rest) l H := JL_val hd hW (RP.rv hv) hn k
theorem aV {v : Value} {d : Nat} (hv : RV P n B l H o v) (k : JL P n B ops Q rest ((d, v) :: l) H) (hd : o.dst = some d := by rfl) (hW : WN ops n l o true := by exact wAny) (hn : Nat.ble n d = false := by rfl) : JL P n B ops Q (o :: rest) l H := JL_val hd hW hv hn k
theorem aF {d : Nat} (k : JL P n B ops Q rest ((d, undef) :: l) H) (hd : o.dst = some d := by rfl) (hW : WN ops n l o false := by exact wOff) (hn : Nat.ble n d = false := by rfl) : JL P n B ops Q (o :: rest) l H := JL_off hd hW hn k
theorem aF0 (k : JL P n B ops Q rest l H) (hd : o.dst = none := by rfl) (hW : WN ops n l o false := by exact wOff) : JL P n B ops Q (o :: rest) l H := JL_off0 hd hW k
theorem aW {m : Option It} {T : Type} {φ : T → Prop} {D : T → Sl} {G : T → List It} (h : OpW P n B m l H o φ D G) (k : ∀ t, φ t → JL P n B ops Q rest (D t) (G t)) (hW : WN ops n l o true := by exact wAny) : JL P n B ops Q (o :: rest) l H := JL_op hW h k
theorem aS {m : Option It} {D : Option Addr → Nat → Sl} {G : Option Addr → Nat → List It} (h : OpS P n B m l H o D G) (k : ∀ A c, JL P n B ops Q rest (D A c) (G A c)) (hW : WN ops n l o true := by exact wAny) : JL P n B ops Q (o :: rest) l H := JL_opS hW h k
/-! ### Covers, loops, cuts -/
theorem cov {l' l : Sl} (h : Cov l' l := by repeat (first | exact trivial | refine ⟨rfl, ?_⟩ | refine ⟨congrArg some (by go_num), ?_⟩ | refine ⟨congrArg (fun x => some (Value.int .i64 x)) (by omega), ?_⟩)) : Cov l' l := h
theorem kJ (l' : Sl) (h : J P n B c Q l' H) (hc : Cov l' l := by exact cov) : J P n B c Q l H := J_keep hc h
theorem kL (l' : Sl) (h : JL P n B ops Q rest l' H) (hc : Cov l' l := by exact cov) : JL P n B ops Q rest l H := JL_keep hc h
theorem kD (l' : Sl) (h : JD ord P n B ops Q ld H0 lx Hx fuel listed l' H) (hc : Cov l' l := by exact cov) : JD ord P n B ops Q ld H0 lx Hx fuel listed l H := JA_keep hc h
theorem kQ {e : Exit} (l' : Sl) (h : JQ n B Q e l' H) (hc : Cov l' l := by exact cov) : JQ n B Q e l H := JQ_keep hc h
theorem xL {T : Type} (φ : T → Prop) (L : T → Sl) (HH : T → List It) (μ : T → Nat) (t0 : T) (h0 : φ t0) (round : ∀ t, φ t → J P n B c (Exit.then (LI n (fun _ => B) φ L HH μ (μ t)) Q) (L t) (HH t)) (hl : Cov (L t0) l := by exact cov) (hH : Pk (HH t0) H := by repeat constructor) : J P n B (.loop c) Q l H := J_loop φ L HH μ t0 h0 hl hH round
theorem xR {T : Type} {φ : T → Prop} {L : T → Sl} {HH : T → List It} {μ : T → Nat} {m : Nat} (t : T) (h0 : φ t) (hm : μ t < m) (hl : Cov (L t) l := by exact cov) (hH : Pk (HH t) H := by repeat constructor) : JQ n B (Exit.then (LI n (fun _ => B) φ L HH μ m) Q) .normal l H := JQ_round (B := fun _ => B) t h0 hm hl hH
theorem xC {T : Type} (φ : T → Prop) (L : T → Sl) (HH : T → List It) (h1 : J P n B x (Exit.then (CutP n B φ L HH) Q) l H) (h2 : ∀ t, φ t → J P n B y Q (L t) (HH t)) : J P n B (x.seq y) Q l H := J_cut φ L HH h1 h2
theorem xE {T : Type} {φ : T → Prop} {L : T → Sl} {HH : T → List It} (t : T) (h0 : φ t) (hl : Cov (L t) l := by exact cov) (hH : Pk (HH t) H := by repeat constructor) : JQ n B (Exit.then (CutP n B φ L HH) Q) .normal l H := JQ_cut t h0 hl hH
/-! ### Panics -/
/-- A call that panics. -/
theorem aPan {f : FuncId} {args : Array Value} {ch : List PanicEntry} (he : EC P n l o f args) (hC : ∀ w, Wd B H w → Calls P f args w (fun e w' => e = .panicked ch ∧ Below w.heap.size w w')) (k : JQ n B Q (.panic ch) l H) (hW : WN ops n l o true := by exact wAny) : JL P n B ops Q (o :: rest) l H := fun a w ha hw =>
 wpList_step (fun K _ => by
  rw [if_pos (hW.D ha)]
  unfold Oper.wp
  rw [show (execOp (B.df a).eval o).run P w = _ from he a w ha]
  refine (hC w hw).mono ?_
  rintro e w' ⟨rfl, h2⟩
  exact k a w' ha (hw.up h2))
/-- A call that panics, in a region that draws its order. -/
theorem dPan {i : Nat} {f : FuncId} {args : Array Value} {ch : List PanicEntry} (hi : ops[i]? = some o) (he : EC P n l o f args) (hC : ∀ w, Wd B H w → Calls P f args w (fun e w' => e = .panicked ch ∧ Below w.heap.size w w')) (k : JQ n B Q (.panic ch) [] H) (hr : Region.ready .any ops listed = [i] := by kernel_rfl) (hW : WN ops n l o true := by exact wAny) : JD (i :: ord) P n B ops Q ld H0 lx Hx (fuel + 1) listed l H := fun a w ha hw =>
 wpAnyP_one hr (wpOp_wp hi (hW a ha) (by
  unfold Oper.wp
  rw [show (execOp (B.df a).eval o).run P w = _ from he a w ha]
  refine (hC w hw).mono ?_
  rintro e w' ⟨rfl, h2⟩
  intro a' h3 h4
  have e1 : a' = B.df { a' with defers := [] } := by cases a'; simp only [Bs.df] at h3 ⊢; rw [h3]
  rw [e1]
  exact k { a' with defers := [] } w' ⟨h4.trans ha.size, rfl, fun _ _ h => (by cases h)⟩ (hw.up h2)))
/-- panic(x). -/
theorem aPanic {x : Operand} {v : Value} {t : TypeId} (ho : o.op = .panic x) (hx : evl l x = some (.iface t v)) (k : JQ n B Q (.panic [{ v := .iface t v, recovered := false }]) l H) (hW : WN ops n l o true := by exact wAny) : JL P n B ops Q (o :: rest) l H := fun a w ha hw =>
 wpList_step (fun K _ => by
  rw [if_pos (hW.D ha)]
  have hr : (execOp (B.df a).eval o).run P w = .halt (.panic (.iface t v)) w := by
   unfold execOp; rw [ho]; simp only [ha.evD hx]; rfl
  unfold Oper.wp
  rw [hr]
  exact k a w ha hw)
theorem JR_panic {fn : Func} {R : Ending → World → Prop} {ch : List PanicEntry} (hR : ∀ w, Wd B H w → R (.panicked ch) w) (hB : B.d = [] := by rfl) : JQ n B (bodyPost P fn R) (.panic ch) l H := fun _ w _ hw => ⟨hB, hR w hw⟩
theorem JQ_then_p {K : Act → World → Prop} {ch : List PanicEntry} (h : JQ n B Q (.panic ch) l H) : JQ n B (Exit.then K Q) (.panic ch) l H := fun a w ha hw => h a w ha hw
theorem JQ_block_p {i : Nat} {ch : List PanicEntry} (h : JQ n B Q (.panic ch) l H) : JQ n B (Exit.inBlock i Q) (.panic ch) l H := fun a w ha hw => h a w ha hw
end
end Go.Proofs.Ytmcpnoailbmkkaa
/- The walk by live slots: runs of steps; calls, new memory, in short. Over any program. -/
namespace Go.Proofs.Ytmcpnoailbmkkaa
open Go Go.RowKit Go.Proofs Go.Shelf

section
variable {P : Program} {n : Nat} {B : Bs} {Q Q' : Exit → Act → World → Prop} {l l' : Sl} {H H' : List It} {ops : Array Oper} {rest : List Oper} {o : Oper} {c x y : Code} {ld lx ord : List Nat} {H0 Hx : List It} {fuel : Nat} {listed : Array Bool}
def isBin : Op → Bool | .binOp .. => true | _ => false
def isCall : Op → Bool | .call _ => true | _ => false
def isLoad : Op → Bool | .load .. => true | _ => false
def isStore : Op → Bool | .store .. => true | _ => false
theorem gBin {v : Value} (_hk : isBin o.op = true := by rfl) (h : RP P n l o v := by
 first
  | exact pLss rfl rfl rfl | exact pAdd rfl rfl rfl | exact pEql rfl rfl rfl | exact pNeq rfl rfl rfl | exact pLeq rfl rfl rfl | exact pGtr rfl rfl rfl | exact pGeq rfl rfl rfl
  | exact pSub rfl rfl rfl | exact pEqlS rfl rfl rfl | exact pNeqS rfl rfl rfl | exact pLssS rfl rfl rfl | exact pLeqS rfl rfl rfl | exact pMul rfl rfl rfl
  | exact pCatS rfl rfl rfl | exact pNeqK rfl rfl rfl | exact pLssK rfl rfl rfl | exact pGtrK rfl rfl rfl | exact pQuo rfl rfl rfl | exact pRem rfl rfl rfl) : RP P n l o v := h
theorem gCall {v : Value} (_hk : isCall o.op = true := by rfl) (h : RP P n l o v := by
 first | exact pLen rfl rfl | exact pLenS rfl rfl | exact pMax rfl rfl rfl | exact pMin rfl rfl rfl) : RP P n l o v := h
/-- An operation without memory. -/
theorem pAny {v : Value} (h : RP P n l o v := by
 first
  | exact rp_move rfl rfl | exact rp_assign rfl rfl | exact gBin | exact gCall | exact rp_pickT rfl rfl rfl | exact rp_pickF rfl rfl rfl | exact rp_nil rfl rfl
  | exact pFieldE rfl rfl | exact pField rfl rfl | exact pIdx rfl rfl rfl | exact pNot rfl rfl | exact pExt rfl rfl rfl | exact rp_func rfl rfl rfl) : RP P n l o v := h
/-- A read of a block that is known. -/
theorem vAny {v : Value} (_hk : isLoad o.op = true := by rfl) (h : RV P n B l H o v := by
 first
  | exact vCell rfl rfl (by repeat constructor) rfl
  | exact vAgg [_, _] rfl rfl rfl (by repeat constructor) rfl
  | exact vAgg [_, _, _] rfl rfl rfl (by repeat constructor) rfl
  | exact vAgg [_, _, _, _] rfl rfl rfl (by repeat constructor) rfl
  | exact vAgg [_, _, _, _, _] rfl rfl rfl (by repeat constructor) rfl
  | exact vAgg [_, _, _, _, _, _] rfl rfl rfl (by repeat constructor) rfl
  | exact vAgg [_, _, _, _, _, _, _] rfl rfl rfl (by repeat constructor) rfl
  | exact vAgg [_, _, _, _, _, _, _, _] rfl rfl rfl (by repeat constructor) rfl
  | exact vAgg [_] rfl rfl rfl (by repeat constructor) rfl) : RV P n B l H o v := h
/-- A store into a block that is known. -/
theorem wAnyS {m : Option It} (_hk : isStore o.op = true := by rfl) (h : OpW P n B m l H o (fun _ : Unit => True) (fun _ => l) (fun _ => H') := by
 first
  | exact wStore (cs := [_]) rfl rfl rfl rfl rfl rfl rfl (by repeat constructor) rfl rfl
  | exact wStore (cs := [_, _]) rfl rfl rfl rfl rfl rfl rfl (by repeat constructor) rfl rfl
  | exact wStore (cs := [_, _, _]) rfl rfl rfl rfl rfl rfl rfl (by repeat constructor) rfl rfl
  | exact wStore (cs := [_, _, _, _]) rfl rfl rfl rfl rfl rfl rfl (by repeat constructor) rfl rfl
  | exact wStore (cs := [_, _, _, _, _]) rfl rfl rfl rfl rfl rfl rfl (by repeat constructor) rfl rfl
  | exact wStore (cs := [_, _, _, _, _, _]) rfl rfl rfl rfl rfl rfl rfl (by repeat constructor) rfl rfl
  | exact wStore (cs := [_, _, _, _, _, _, _, _]) rfl rfl rfl rfl rfl rfl rfl (by repeat constructor) rfl rfl) : OpW P n B m l H o (fun _ : Unit => True) (fun _ => l) (fun _ => H') := h
theorem aW0 {m : Option It} (h : OpW P n B m l H o (fun _ : Unit => True) (fun _ => l) (fun _ => H')) (k : JL P n B ops Q rest l H') (hW : WN ops n l o true := by exact wAny) : JL P n B ops Q (o :: rest) l H := JL_op hW h (fun _ _ => k)
theorem dW0 {i : Nat} {m : Option It} (hi : ops[i]? = some o) (h : OpW P n B m l H o (fun _ : Unit => True) (fun _ => l) (fun _ => H')) (k : JD ord P n B ops Q ld H0 lx Hx fuel (listed.setIfInBounds i true) l H') (hr : Region.ready .any ops listed = [i] := by kernel_rfl) (hm : Kp ops ld lx Hx H i m := by first | exact trivial | exact ⟨by kernel_rfl, .inl (rfl : waitsB _ [] _ = true)⟩ | exact ⟨by kernel_rfl, .inr ⟨rfl, by repeat constructor⟩⟩) (hW : WN ops n l o true := by exact wAny) :
  JD (i :: ord) P n B ops Q ld H0 lx Hx (fuel + 1) listed l H := JA_one hr hi hW h hm (fun _ _ => k)
/-- What is left to show, in a wrap (a tactic might lay hold of it). -/
structure Wr (R : Prop) : Prop where out : R
attribute [local irreducible] J JQ JL JA JD
/-- One step: at an operation of a plain region; of a drawn one; at any place. -/
theorem a1 {R : Prop} (r : R) (h : Wr R → JL P n B ops Q (o :: rest) l H := by
 intro r
 first
  | exact aF r.out | exact aV vAny r.out | exact aW0 wAnyS r.out | exact aP pAny r.out | exact aF0 r.out) : JL P n B ops Q (o :: rest) l H := h ⟨r⟩
theorem d1 {R : Prop} (r : R) (h : Wr R → JD ord P n B ops Q ld H0 lx Hx fuel listed l H := by
 intro r
 first
  | exact dDone r.out | exact dF rfl wOff r.out | exact dL rfl vAny r.out | exact dX rfl vAny r.out | exact dW0 rfl wAnyS r.out | exact dP rfl pAny r.out | exact dFL rfl wOff r.out | exact dFX rfl wOff r.out) : JD ord P n B ops Q ld H0 lx Hx fuel listed l H := h ⟨r⟩
theorem c1 {R : Prop} (r : R) (h : Wr R → J P n B c Q l H := by
 intro r
 first
  | exact J_seq r.out | exact J_reg r.out | exact J_yes rfl rfl r.out | exact J_no rfl rfl r.out | exact J_skip r.out | exact J_block r.out | exact J_exit r.out | exact J_ret r.out | exact J_label r.out) : J P n B c Q l H := h ⟨r⟩
theorem q1 {e : Exit} {R : Prop} (r : R) (h : Wr R → JQ n B Q e l H := by
 intro r
 first
  | exact JQ_then_n r.out | exact JQ_then_x r.out | exact JQ_then_r r.out | exact JQ_block_n r.out | exact JQ_block_r r.out | exact JQ_block_y rfl r.out | exact JQ_block_x rfl r.out | exact JQ_then_p r.out | exact JQ_block_p r.out) : JQ n B Q e l H := h ⟨r⟩
theorem s1 {A R : Prop} (r : R) (h : Wr R → A := by
 intro r
 first
  | (show J _ _ _ _ _ _ _; exact c1 r.out)
  | (show JQ _ _ _ _ _ _; exact q1 r.out)
  | (show JL _ _ _ _ _ (_ :: _) _ _; exact a1 r.out)
  | (show JL _ _ _ _ _ [] _ _; exact JL_nil r.out)
  | (show JD _ _ _ _ _ _ _ _ _ _ _ _ _ _; exact d1 r.out)) : A := h ⟨r⟩
end
theorem s2 {A R : Prop} (r : R) (h : Wr R → A := by
 intro r
 iterate 2 refine s1 ?_
 exact r.out) : A := h ⟨r⟩
theorem s3 {A R : Prop} (r : R) (h : Wr R → A := by
 intro r
 iterate 3 refine s1 ?_
 exact r.out) : A := h ⟨r⟩
theorem s4 {A R : Prop} (r : R) (h : Wr R → A := by
 intro r
 iterate 4 refine s1 ?_
 exact r.out) : A := h ⟨r⟩
theorem s5 {A R : Prop} (r : R) (h : Wr R → A := by
 intro r
 iterate 5 refine s1 ?_
 exact r.out) : A := h ⟨r⟩
theorem s6 {A R : Prop} (r : R) (h : Wr R → A := by
 intro r
 iterate 6 refine s1 ?_
 exact r.out) : A := h ⟨r⟩
theorem s7 {A R : Prop} (r : R) (h : Wr R → A := by
 intro r
 iterate 7 refine s1 ?_
 exact r.out) : A := h ⟨r⟩
theorem s8 {A R : Prop} (r : R) (h : Wr R → A := by
 intro r
 iterate 8 refine s1 ?_
 exact r.out) : A := h ⟨r⟩
theorem s9 {A R : Prop} (r : R) (h : Wr R → A := by
 intro r
 iterate 9 refine s1 ?_
 exact r.out) : A := h ⟨r⟩
theorem s10 {A R : Prop} (r : R) (h : Wr R → A := by
 intro r
 iterate 10 refine s1 ?_
 exact r.out) : A := h ⟨r⟩
theorem s11 {A R : Prop} (r : R) (h : Wr R → A := by
 intro r
 iterate 11 refine s1 ?_
 exact r.out) : A := h ⟨r⟩
theorem s12 {A R : Prop} (r : R) (h : Wr R → A := by
 intro r
 iterate 12 refine s1 ?_
 exact r.out) : A := h ⟨r⟩
theorem s13 {A R : Prop} (r : R) (h : Wr R → A := by
 intro r
 iterate 13 refine s1 ?_
 exact r.out) : A := h ⟨r⟩
theorem s14 {A R : Prop} (r : R) (h : Wr R → A := by
 intro r
 iterate 14 refine s1 ?_
 exact r.out) : A := h ⟨r⟩
theorem s15 {A R : Prop} (r : R) (h : Wr R → A := by
 intro r
 iterate 15 refine s1 ?_
 exact r.out) : A := h ⟨r⟩
theorem s16 {A R : Prop} (r : R) (h : Wr R → A := by
 intro r
 iterate 16 refine s1 ?_
 exact r.out) : A := h ⟨r⟩
theorem s17 {A R : Prop} (r : R) (h : Wr R → A := by
 intro r
 iterate 17 refine s1 ?_
 exact r.out) : A := h ⟨r⟩
theorem s18 {A R : Prop} (r : R) (h : Wr R → A := by
 intro r
 iterate 18 refine s1 ?_
 exact r.out) : A := h ⟨r⟩
theorem s19 {A R : Prop} (r : R) (h : Wr R → A := by
 intro r
 iterate 19 refine s1 ?_
 exact r.out) : A := h ⟨r⟩
theorem s20 {A R : Prop} (r : R) (h : Wr R → A := by
 intro r
 iterate 20 refine s1 ?_
 exact r.out) : A := h ⟨r⟩
theorem s21 {A R : Prop} (r : R) (h : Wr R → A := by
 intro r
 iterate 21 refine s1 ?_
 exact r.out) : A := h ⟨r⟩
theorem s22 {A R : Prop} (r : R) (h : Wr R → A := by
 intro r
 iterate 22 refine s1 ?_
 exact r.out) : A := h ⟨r⟩
theorem s23 {A R : Prop} (r : R) (h : Wr R → A := by
 intro r
 iterate 23 refine s1 ?_
 exact r.out) : A := h ⟨r⟩
theorem s24 {A R : Prop} (r : R) (h : Wr R → A := by
 intro r
 iterate 24 refine s1 ?_
 exact r.out) : A := h ⟨r⟩
theorem s25 {A R : Prop} (r : R) (h : Wr R → A := by
 intro r
 iterate 25 refine s1 ?_
 exact r.out) : A := h ⟨r⟩
theorem s26 {A R : Prop} (r : R) (h : Wr R → A := by
 intro r
 iterate 26 refine s1 ?_
 exact r.out) : A := h ⟨r⟩
theorem s27 {A R : Prop} (r : R) (h : Wr R → A := by
 intro r
 iterate 27 refine s1 ?_
 exact r.out) : A := h ⟨r⟩
theorem s28 {A R : Prop} (r : R) (h : Wr R → A := by
 intro r
 iterate 28 refine s1 ?_
 exact r.out) : A := h ⟨r⟩
theorem s29 {A R : Prop} (r : R) (h : Wr R → A := by
 intro r
 iterate 29 refine s1 ?_
 exact r.out) : A := h ⟨r⟩
theorem s30 {A R : Prop} (r : R) (h : Wr R → A := by
 intro r
 iterate 30 refine s1 ?_
 exact r.out) : A := h ⟨r⟩
theorem s31 {A R : Prop} (r : R) (h : Wr R → A := by
 intro r
 iterate 31 refine s1 ?_
 exact r.out) : A := h ⟨r⟩
theorem s32 {A R : Prop} (r : R) (h : Wr R → A := by
 intro r
 iterate 32 refine s1 ?_
 exact r.out) : A := h ⟨r⟩
theorem s33 {A R : Prop} (r : R) (h : Wr R → A := by
 intro r
 iterate 33 refine s1 ?_
 exact r.out) : A := h ⟨r⟩
theorem s34 {A R : Prop} (r : R) (h : Wr R → A := by
 intro r
 iterate 34 refine s1 ?_
 exact r.out) : A := h ⟨r⟩
theorem s35 {A R : Prop} (r : R) (h : Wr R → A := by
 intro r
 iterate 35 refine s1 ?_
 exact r.out) : A := h ⟨r⟩
theorem s36 {A R : Prop} (r : R) (h : Wr R → A := by
 intro r
 iterate 36 refine s1 ?_
 exact r.out) : A := h ⟨r⟩
theorem s37 {A R : Prop} (r : R) (h : Wr R → A := by
 intro r
 iterate 37 refine s1 ?_
 exact r.out) : A := h ⟨r⟩
theorem s38 {A R : Prop} (r : R) (h : Wr R → A := by
 intro r
 iterate 38 refine s1 ?_
 exact r.out) : A := h ⟨r⟩
theorem s39 {A R : Prop} (r : R) (h : Wr R → A := by
 intro r
 iterate 39 refine s1 ?_
 exact r.out) : A := h ⟨r⟩
theorem s40 {A R : Prop} (r : R) (h : Wr R → A := by
 intro r
 iterate 40 refine s1 ?_
 exact r.out) : A := h ⟨r⟩
section
variable {P : Program} {n : Nat} {B : Bs} {Q : Exit → Act → World → Prop} {l : Sl} {H : List It} {ops : Array Oper} {rest : List Oper} {o : Oper} {ld lx ord : List Nat} {H0 Hx : List It} {fuel : Nat} {listed : Array Bool}
/-! ### Calls of functions -/
theorem ecF {f : FuncId} {xs : List Operand} {ts : Array TypeId} {vs : List Value} [h : Cf P f] (ho : o.op = .call { callee := .value (.func f), args := xs.toArray, argTypes := ts }) (hx : evs l xs = some vs) : EC P n l o f vs.toArray := ec_fn ho hx h.h
theorem oB {f : FuncId} {xs : List Operand} {ts : Array TypeId} {vs : List Value} {v : Value} {d : Nat} [h : Cf P f] (hC : ∀ w, Wd B H w → Calls P f vs.toArray w (fun e w' => e = .returned v ∧ Below w.heap.size w w')) (ho : o.op = .call { callee := .value (.func f), args := xs.toArray, argTypes := ts } := by rfl) (hx : evs l xs = some vs := by rfl) (hd : o.dst = some d := by rfl) (hn : Nat.ble n d = false := by rfl) : OpW P n B none l H o (fun _ : Unit => True) (fun _ => (d, v) :: l) (fun _ => H) := ow_callB (ecF ho hx) hd hn hC
theorem aCB {f : FuncId} {xs : List Operand} {ts : Array TypeId} {vs : List Value} {v : Value} {d : Nat} [h : Cf P f] (hC : ∀ w, Wd B H w → Calls P f vs.toArray w (fun e w' => e = .returned v ∧ Below w.heap.size w w')) (k : JL P n B ops Q rest ((d, v) :: l) H) (ho : o.op = .call { callee := .value (.func f), args := xs.toArray, argTypes := ts } := by rfl) (hx : evs l xs = some vs := by rfl) (hd : o.dst = some d := by rfl) (hW : WN ops n l o true := by exact wAny) (hn : Nat.ble n d = false := by rfl) : JL P n B ops Q (o :: rest) l H := JL_op hW (oB hC ho hx hd hn) (fun _ _ => k)
theorem dCB {i : Nat} {f : FuncId} {xs : List Operand} {ts : Array TypeId} {vs : List Value} {v : Value} {d : Nat} [h : Cf P f] (hi : ops[i]? = some o) (hC : ∀ w, Wd B H w → Calls P f vs.toArray w (fun e w' => e = .returned v ∧ Below w.heap.size w w')) (k : JD ord P n B ops Q ld H0 lx Hx fuel (listed.setIfInBounds i true) ((d, v) :: l) H) (ho : o.op = .call { callee := .value (.func f), args := xs.toArray, argTypes := ts } := by rfl) (hx : evs l xs = some vs := by rfl) (hd : o.dst = some d := by rfl) (hr : Region.ready .any ops listed = [i] := by kernel_rfl) (hW : WN ops n l o true := by exact wAny) (hn : Nat.ble n d = false := by rfl) : JD (i :: ord) P n B ops Q ld H0 lx Hx (fuel + 1) listed l H := JA_one (m := none) hr hi hW (oB hC ho hx hd hn) trivial (fun _ _ => k)
theorem Back.of {v : Value} {w w' : World} {e : Ending} (h : e = .returned v ∧ w = w') : Back v w e w' := ⟨h.1, by rw [← h.2]; exact Below.refl _ _⟩
theorem oR {f : FuncId} {xs : List Operand} {ts : Array TypeId} {vs : List Value} {T : Type} {φ : T → Prop} {V : T → Value} {G : T → List It} {d : Nat} [h : Cf P f] (hC : ∀ w, Wd B H w → Calls P f vs.toArray w (Ret w φ V G)) (ho : o.op = .call { callee := .value (.func f), args := xs.toArray, argTypes := ts } := by rfl) (hx : evs l xs = some vs := by rfl) (hd : o.dst = some d := by rfl) (hn : Nat.ble n d = false := by rfl) (hr : ∀ t, ((G t).all fun A => !A.ro) = true := by exact fun _ => rfl) : OpW P n B none l H o φ (fun t => (d, V t) :: l) (fun t => G t ++ H) := ow_callR (ecF ho hx) hd hn hr hC
theorem oS {α : Type} {ty k : Nat} {enc : α → List Value} {L : List α} {f : FuncId} {xs : List Operand} {ts : Array TypeId} {vs : List Value} {d : Nat} [h : Cf P f] (hC : ∀ w, Wd B H w → Calls P f vs.toArray w (RetS ty k enc L w)) (ho : o.op = .call { callee := .value (.func f), args := xs.toArray, argTypes := ts } := by rfl) (hx : evs l xs = some vs := by rfl) (hd : o.dst = some d := by rfl) (hn : Nat.ble n d = false := by rfl) : OpS P n B none l H o (fun A c => (d, .slice A L.length c) :: l) (fun A c => ownB ty k A L.length c (L.flatMap enc) :: H) := ow_callS (ecF ho hx) hd hn hC
theorem oM {A : It} {T : Type} {φ : T → Prop} {V : T → Value} {C : T → It} {G : T → List It} {f : FuncId} {xs : List Operand} {ts : Array TypeId} {vs : List Value} {d : Nat} [h : Cf P f] (hC : ∀ w, Wd B H w → Calls P f vs.toArray w (RetM A φ V C w)) (ho : o.op = .call { callee := .value (.func f), args := xs.toArray, argTypes := ts } := by rfl) (hx : evs l xs = some vs := by rfl) (hd : o.dst = some d := by rfl) (hn : Nat.ble n d = false := by rfl) (hAr : A.ro = false := by rfl) (hCr : ∀ t, (C t).ro = false := by exact fun _ => rfl) (hat : ∀ t, At A (C t) H (G t) := by intro t; repeat constructor) : OpW P n B (some A) l H o φ (fun t => (d, V t) :: l) G := ow_callM (ecF ho hx) hd hn hAr hCr hat hC
theorem oL (HA H1 : List It) {T : Type} {φ : T → Prop} {V : T → Value} {G : T → List It} {f : FuncId} {xs : List Operand} {ts : Array TypeId} {vs : List Value} {d : Nat} [h : Cf P f] (hC : ∀ w, Wd B H w → Wd B HA w → Calls P f vs.toArray w (RetL HA φ V G w)) (ho : o.op = .call { callee := .value (.func f), args := xs.toArray, argTypes := ts } := by rfl) (hx : evs l xs = some vs := by rfl) (hd : o.dst = some d := by rfl) (hn : Nat.ble n d = false := by rfl) (hk : Pk (HA ++ H1) H := by repeat constructor) (hA : (HA.all fun A => !A.ro) = true := by rfl) (hG : ∀ t, ((G t).all fun A => !A.ro) = true := by exact fun _ => rfl) : OpW P n B (some (allI HA)) l H o φ (fun t => (d, V t) :: l) (fun t => G t ++ H1) := ow_callL HA H1 (ecF ho hx) hd hn hk hA hG hC
/-! ### New memory -/
theorem dOA (ord' : List Nat) (h : JD ord' P n B ops Q ld H0 lx Hx fuel listed l H) : JA P n B ops Q ld H0 lx Hx fuel listed l H := h
theorem oApp {α : Type} {k : Nat} {enc : α → List Value} (E : Enc k enc) {sl e ty' : TypeId} {z : Value} {bytes d : Nat} {x y : Operand} {A : Option Addr} {c c' b : Nat} {L : List α} {cs : List Value} {G : Option Addr → Nat → List It} (r : α) [u : Und P sl (.slice e)] [i : Inf P e z k bytes] (ho : o.op = .call { callee := .builtin .append, args := #[x, y], argTypes := #[sl, sl] } := by rfl) (hk : 0 < k := by decide) (hzs : z.cells.size = k := by rfl) (hby : bytes ≤ 128 := by decide) (hd : o.dst = some d := by rfl) (hn : Nat.ble n d = false := by rfl) (hx : evl l x = some (.slice A L.length c) := by rfl) (hy : evl l y = some (.slice (some ⟨b, 0, none⟩) 1 c') := by rfl) (hm : cellB b cs ty' ∈ H := by repeat constructor) (hcs : cs = enc r := by rfl) (hl : L.length + 1 ≤ 1000000 := by omega)
  (hat : ∀ A' c', At (ownB e k A L.length c (L.flatMap enc)) (ownB e k A' (L ++ [r]).length c' ((L ++ [r]).flatMap enc)) H (G A' c') := by intro A c; repeat constructor) : OpS P n B (some (ownB e k A L.length c (L.flatMap enc))) l H o (fun A' c' => (d, .slice A' (L ++ [r]).length c') :: l) G := ow_app1 E hk r u.h i.h hzs hby ho hd hn hx hy hm hcs hl hat
theorem oA {d : Nat} {ty : TypeId} {v : Value} {vs : List Value} [z : Zer P ty v] (ho : o.op = .alloc ty := by rfl) (hv : v.cells = vs.toArray := by rfl) (hd : o.dst = some d := by rfl) (hn : Nat.ble n d = false := by rfl) : OpW P n B none l H o (fun b : Nat => B.w.heap.size ≤ b) (fun b => (d, .pointer (some ⟨b, 0, none⟩)) :: l) (fun b => cellB b vs ty :: H) := ow_alloc ho hd z.h hv hn
theorem oX {d : Nat} {x : Operand} {v : Value} {ty : TypeId} (vs : List Value) (ho : o.op = .box ty x := by rfl) (hx : evl l x = some v := by rfl) (hv : v.cells = vs.toArray := by rfl) (hd : o.dst = some d := by rfl) (hn : Nat.ble n d = false := by rfl) : OpW P n B none l H o (fun b : Nat => B.w.heap.size ≤ b) (fun b => (d, .pointer (some ⟨b, 0, none⟩)) :: l) (fun b => cellB b vs ty :: H) := ow_box ho hx hv hd hn
end
end Go.Proofs.Ytmcpnoailbmkkaa
/- Closed facts of the program, as instances. -/
namespace Go.Proofs.Ytmcpnoailbmkkaa
open Go Go.RowKit Go.Proofs

instance : Und Try.prog 3 (.int .i64) := ⟨by kernel_rfl⟩
instance : Und Try.prog 4 .bool := ⟨by kernel_rfl⟩
instance : Und Try.prog 24 (.slice 42) := ⟨by kernel_rfl⟩
instance : Und Try.prog 25 (.slice 3) := ⟨by kernel_rfl⟩
instance : Und Try.prog 32 (.slice 49) := ⟨by kernel_rfl⟩
instance : Und Try.prog 55 (.slice 85) := ⟨by kernel_rfl⟩
instance : Und Try.prog 87 (.map 89 4) := ⟨by kernel_rfl⟩
instance : Und Try.prog 103 (.map 102 49) := ⟨by kernel_rfl⟩
instance : Und Try.prog 110 (.slice 114) := ⟨by kernel_rfl⟩
instance : Und Try.prog 127 (.int .u64) := ⟨by kernel_rfl⟩
instance : Siz Try.prog 3 1 := ⟨fun _ => by kernel_rfl⟩
instance : Siz Try.prog 4 1 := ⟨fun _ => by kernel_rfl⟩
instance : Siz Try.prog 23 5 := ⟨fun _ => by kernel_rfl⟩
instance : Siz Try.prog 24 1 := ⟨fun _ => by kernel_rfl⟩
instance : Siz Try.prog 25 1 := ⟨fun _ => by kernel_rfl⟩
instance : Siz Try.prog 31 3 := ⟨fun _ => by kernel_rfl⟩
instance : Siz Try.prog 32 1 := ⟨fun _ => by kernel_rfl⟩
instance : Siz Try.prog 42 6 := ⟨fun _ => by kernel_rfl⟩
instance : Siz Try.prog 45 1 := ⟨fun _ => by kernel_rfl⟩
instance : Siz Try.prog 47 2 := ⟨fun _ => by kernel_rfl⟩
instance : Siz Try.prog 49 4 := ⟨fun _ => by kernel_rfl⟩
instance : Siz Try.prog 55 1 := ⟨fun _ => by kernel_rfl⟩
instance : Siz Try.prog 57 3 := ⟨fun _ => by kernel_rfl⟩
instance : Siz Try.prog 76 1 := ⟨fun _ => by kernel_rfl⟩
instance : Siz Try.prog 82 7 := ⟨fun _ => by kernel_rfl⟩
instance : Siz Try.prog 85 2 := ⟨fun _ => by kernel_rfl⟩
instance : Siz Try.prog 89 2 := ⟨fun _ => by kernel_rfl⟩
instance : Siz Try.prog 102 2 := ⟨fun _ => by kernel_rfl⟩
instance : Siz Try.prog 108 9 := ⟨fun _ => by kernel_rfl⟩
instance : Siz Try.prog 112 1 := ⟨fun _ => by kernel_rfl⟩
instance : Siz Try.prog 114 2 := ⟨fun _ => by kernel_rfl⟩
instance : Siz Try.prog 122 1 := ⟨fun _ => by kernel_rfl⟩
instance : Agg Try.prog 3 false := ⟨fun _ => by kernel_rfl⟩
instance : Agg Try.prog 4 false := ⟨fun _ => by kernel_rfl⟩
instance : Agg Try.prog 23 true := ⟨fun _ => by kernel_rfl⟩
instance : Agg Try.prog 24 false := ⟨fun _ => by kernel_rfl⟩
instance : Agg Try.prog 25 false := ⟨fun _ => by kernel_rfl⟩
instance : Agg Try.prog 31 true := ⟨fun _ => by kernel_rfl⟩
instance : Agg Try.prog 32 false := ⟨fun _ => by kernel_rfl⟩
instance : Agg Try.prog 42 true := ⟨fun _ => by kernel_rfl⟩
instance : Agg Try.prog 45 false := ⟨fun _ => by kernel_rfl⟩
instance : Agg Try.prog 47 true := ⟨fun _ => by kernel_rfl⟩
instance : Agg Try.prog 49 true := ⟨fun _ => by kernel_rfl⟩
instance : Agg Try.prog 55 false := ⟨fun _ => by kernel_rfl⟩
instance : Agg Try.prog 57 true := ⟨fun _ => by kernel_rfl⟩
instance : Agg Try.prog 76 false := ⟨fun _ => by kernel_rfl⟩
instance : Agg Try.prog 82 true := ⟨fun _ => by kernel_rfl⟩
instance : Agg Try.prog 85 true := ⟨fun _ => by kernel_rfl⟩
instance : Agg Try.prog 89 true := ⟨fun _ => by kernel_rfl⟩
instance : Agg Try.prog 102 true := ⟨fun _ => by kernel_rfl⟩
instance : Agg Try.prog 108 true := ⟨fun _ => by kernel_rfl⟩
instance : Agg Try.prog 112 false := ⟨fun _ => by kernel_rfl⟩
instance : Agg Try.prog 114 true := ⟨fun _ => by kernel_rfl⟩
instance : Agg Try.prog 122 false := ⟨fun _ => by kernel_rfl⟩
instance : Zer Try.prog 3 (.int .i64 0) := ⟨fun _ => by kernel_rfl⟩
instance : Zer Try.prog 4 (.bool false) := ⟨fun _ => by kernel_rfl⟩
instance : Zer Try.prog 25 (.slice none 0 0) := ⟨fun _ => by kernel_rfl⟩
instance : Zer Try.prog 31 (.agg #[.int .i64 0, .int .i64 0, .bool false]) := ⟨fun _ => by kernel_rfl⟩
instance : Zer Try.prog 42 (.agg #[.int .i64 0, .int .i64 0, .bool false, .bool false, .int .i64 0, .slice none 0 0]) := ⟨fun _ => by kernel_rfl⟩
instance : Zer Try.prog 49 (.agg #[.int .i64 0, .int .i64 0, .int .i64 0, .int .i64 0]) := ⟨fun _ => by kernel_rfl⟩
instance : Zer Try.prog 57 (.agg #[.int .i64 0, .int .i64 0, .slice none 0 0]) := ⟨fun _ => by kernel_rfl⟩
instance : Zer Try.prog 85 (.agg #[.slice none 0 0, .bool false]) := ⟨fun _ => by kernel_rfl⟩
instance : Zer Try.prog 89 (.agg #[.int .i64 0, .int .i64 0]) := ⟨fun _ => by kernel_rfl⟩
instance : Zer Try.prog 102 (.agg #[.int .i64 0, .int .i64 0]) := ⟨fun _ => by kernel_rfl⟩
instance : Zer Try.prog 108 (.agg #[.int .i64 0, .int .i64 0, .bool false, .bool false, .int .i64 0, .slice none 0 0, .bool false, .bool false, .bool false]) := ⟨fun _ => by kernel_rfl⟩
instance : Zer Try.prog 114 (.agg #[.int .i64 0, .nilFunc]) := ⟨fun _ => by kernel_rfl⟩
instance : Fof Try.prog 23 0 0 := ⟨fun _ _ _ => by kernel_rfl⟩
instance : Fof Try.prog 23 1 1 := ⟨fun _ _ _ => by kernel_rfl⟩
instance : Fof Try.prog 23 2 2 := ⟨fun _ _ _ => by kernel_rfl⟩
instance : Fof Try.prog 23 3 3 := ⟨fun _ _ _ => by kernel_rfl⟩
instance : Fof Try.prog 23 4 4 := ⟨fun _ _ _ => by kernel_rfl⟩
instance : Fof Try.prog 27 0 0 := ⟨fun _ _ _ => by kernel_rfl⟩
instance : Fof Try.prog 27 1 1 := ⟨fun _ _ _ => by kernel_rfl⟩
instance : Fof Try.prog 31 0 0 := ⟨fun _ _ _ => by kernel_rfl⟩
instance : Fof Try.prog 42 0 0 := ⟨fun _ _ _ => by kernel_rfl⟩
instance : Fof Try.prog 42 1 1 := ⟨fun _ _ _ => by kernel_rfl⟩
instance : Fof Try.prog 42 2 2 := ⟨fun _ _ _ => by kernel_rfl⟩
instance : Fof Try.prog 42 3 3 := ⟨fun _ _ _ => by kernel_rfl⟩
instance : Fof Try.prog 42 4 4 := ⟨fun _ _ _ => by kernel_rfl⟩
instance : Fof Try.prog 42 5 5 := ⟨fun _ _ _ => by kernel_rfl⟩
instance : Fof Try.prog 47 0 0 := ⟨fun _ _ _ => by kernel_rfl⟩
instance : Fof Try.prog 47 1 1 := ⟨fun _ _ _ => by kernel_rfl⟩
instance : Fof Try.prog 49 0 0 := ⟨fun _ _ _ => by kernel_rfl⟩
instance : Fof Try.prog 49 1 1 := ⟨fun _ _ _ => by kernel_rfl⟩
instance : Fof Try.prog 49 2 2 := ⟨fun _ _ _ => by kernel_rfl⟩
instance : Fof Try.prog 57 0 0 := ⟨fun _ _ _ => by kernel_rfl⟩
instance : Fof Try.prog 57 1 1 := ⟨fun _ _ _ => by kernel_rfl⟩
instance : Fof Try.prog 57 2 2 := ⟨fun _ _ _ => by kernel_rfl⟩
instance : Fof Try.prog 78 0 0 := ⟨fun _ _ _ => by kernel_rfl⟩
instance : Fof Try.prog 78 1 5 := ⟨fun _ _ _ => by kernel_rfl⟩
instance : Fof Try.prog 78 2 6 := ⟨fun _ _ _ => by kernel_rfl⟩
instance : Fof Try.prog 78 3 7 := ⟨fun _ _ _ => by kernel_rfl⟩
instance : Fof Try.prog 78 4 8 := ⟨fun _ _ _ => by kernel_rfl⟩
instance : Fof Try.prog 78 5 9 := ⟨fun _ _ _ => by kernel_rfl⟩
instance : Fof Try.prog 82 0 0 := ⟨fun _ _ _ => by kernel_rfl⟩
instance : Fof Try.prog 82 1 5 := ⟨fun _ _ _ => by kernel_rfl⟩
instance : Fof Try.prog 82 2 6 := ⟨fun _ _ _ => by kernel_rfl⟩
instance : Fof Try.prog 85 0 0 := ⟨fun _ _ _ => by kernel_rfl⟩
instance : Fof Try.prog 85 1 1 := ⟨fun _ _ _ => by kernel_rfl⟩
instance : Fof Try.prog 108 0 0 := ⟨fun _ _ _ => by kernel_rfl⟩
instance : Fof Try.prog 108 1 6 := ⟨fun _ _ _ => by kernel_rfl⟩
instance : Fof Try.prog 108 2 7 := ⟨fun _ _ _ => by kernel_rfl⟩
instance : Fof Try.prog 108 3 8 := ⟨fun _ _ _ => by kernel_rfl⟩
instance : Fof Try.prog 114 0 0 := ⟨fun _ _ _ => by kernel_rfl⟩
instance : Fof Try.prog 114 1 1 := ⟨fun _ _ _ => by kernel_rfl⟩
instance : Inf Try.prog 3 (.int .i64 0) 1 8 := ⟨by kernel_rfl⟩
instance : Inf Try.prog 42 (.agg #[.int .i64 0, .int .i64 0, .bool false, .bool false, .int .i64 0, .slice none 0 0]) 6 56 := ⟨by kernel_rfl⟩
instance : Inf Try.prog 49 (.agg #[.int .i64 0, .int .i64 0, .int .i64 0, .int .i64 0]) 4 32 := ⟨by kernel_rfl⟩
instance : Inf Try.prog 85 (.agg #[.slice none 0 0, .bool false]) 2 32 := ⟨by kernel_rfl⟩
instance : Cf Try.prog 4 := ⟨fun _ _ => by kernel_rfl⟩
instance : Cf Try.prog 5 := ⟨fun _ _ => by kernel_rfl⟩
instance : Cf Try.prog 6 := ⟨fun _ _ => by kernel_rfl⟩
instance : Cf Try.prog 7 := ⟨fun _ _ => by kernel_rfl⟩
instance : Cf Try.prog 8 := ⟨fun _ _ => by kernel_rfl⟩
instance : Cf Try.prog 9 := ⟨fun _ _ => by kernel_rfl⟩
instance : Cf Try.prog 10 := ⟨fun _ _ => by kernel_rfl⟩
instance : Cf Try.prog 11 := ⟨fun _ _ => by kernel_rfl⟩
instance : Cf Try.prog 12 := ⟨fun _ _ => by kernel_rfl⟩
instance : Cf Try.prog 13 := ⟨fun _ _ => by kernel_rfl⟩
instance : Cf Try.prog 14 := ⟨fun _ _ => by kernel_rfl⟩
instance : Cf Try.prog 15 := ⟨fun _ _ => by kernel_rfl⟩
instance : Cf Try.prog 16 := ⟨fun _ _ => by kernel_rfl⟩
instance : Cf Try.prog 17 := ⟨fun _ _ => by kernel_rfl⟩
instance : Cf Try.prog 18 := ⟨fun _ _ => by kernel_rfl⟩
instance : Cf Try.prog 19 := ⟨fun _ _ => by kernel_rfl⟩
instance : Cf Try.prog 20 := ⟨fun _ _ => by kernel_rfl⟩
instance : Cf Try.prog 21 := ⟨fun _ _ => by kernel_rfl⟩
instance : Cf Try.prog 22 := ⟨fun _ _ => by kernel_rfl⟩
instance : Cf Try.prog 23 := ⟨fun _ _ => by kernel_rfl⟩
instance : Cf Try.prog 24 := ⟨fun _ _ => by kernel_rfl⟩
instance : Cf Try.prog 25 := ⟨fun _ _ => by kernel_rfl⟩
instance : Cf Try.prog 26 := ⟨fun _ _ => by kernel_rfl⟩
instance : Cf Try.prog 27 := ⟨fun _ _ => by kernel_rfl⟩
instance : Cf Try.prog 28 := ⟨fun _ _ => by kernel_rfl⟩
instance : Cf Try.prog 29 := ⟨fun _ _ => by kernel_rfl⟩
instance : Cf Try.prog 30 := ⟨fun _ _ => by kernel_rfl⟩
instance : Cf Try.prog 31 := ⟨fun _ _ => by kernel_rfl⟩
instance : Cf Try.prog 32 := ⟨fun _ _ => by kernel_rfl⟩
instance : Cf Try.prog 33 := ⟨fun _ _ => by kernel_rfl⟩
instance : Cf Try.prog 34 := ⟨fun _ _ => by kernel_rfl⟩
instance : Cf Try.prog 35 := ⟨fun _ _ => by kernel_rfl⟩
instance : Cf Try.prog 36 := ⟨fun _ _ => by kernel_rfl⟩
instance : Cf Try.prog 37 := ⟨fun _ _ => by kernel_rfl⟩
instance : Cf Try.prog 38 := ⟨fun _ _ => by kernel_rfl⟩
instance : Cf Try.prog 39 := ⟨fun _ _ => by kernel_rfl⟩
instance : Cf Try.prog 40 := ⟨fun _ _ => by kernel_rfl⟩
instance : Cf Try.prog 41 := ⟨fun _ _ => by kernel_rfl⟩
instance : Cf Try.prog 42 := ⟨fun _ _ => by kernel_rfl⟩
instance : Cf Try.prog 43 := ⟨fun _ _ => by kernel_rfl⟩
instance : Cf Try.prog 44 := ⟨fun _ _ => by kernel_rfl⟩
instance : Cf Try.prog 45 := ⟨fun _ _ => by kernel_rfl⟩
instance : Cf Try.prog 47 := ⟨fun _ _ => by kernel_rfl⟩
instance : Cf Try.prog 48 := ⟨fun _ _ => by kernel_rfl⟩
instance : Cf Try.prog 49 := ⟨fun _ _ => by kernel_rfl⟩
instance : Cf Try.prog 50 := ⟨fun _ _ => by kernel_rfl⟩
instance : Cf Try.prog 51 := ⟨fun _ _ => by kernel_rfl⟩
instance : Cf Try.prog 53 := ⟨fun _ _ => by kernel_rfl⟩
instance : Cf Try.prog 54 := ⟨fun _ _ => by kernel_rfl⟩
instance : Cf Try.prog 55 := ⟨fun _ _ => by kernel_rfl⟩
instance : Cf Try.prog 56 := ⟨fun _ _ => by kernel_rfl⟩
instance : Cf Try.prog 57 := ⟨fun _ _ => by kernel_rfl⟩
instance : Cf Try.prog 59 := ⟨fun _ _ => by kernel_rfl⟩
instance : Cf Try.prog 60 := ⟨fun _ _ => by kernel_rfl⟩
instance : Cf Try.prog 64 := ⟨fun _ _ => by kernel_rfl⟩
instance : Cf Try.prog 65 := ⟨fun _ _ => by kernel_rfl⟩
instance : Cf Try.prog 66 := ⟨fun _ _ => by kernel_rfl⟩
instance : Cf Try.prog 68 := ⟨fun _ _ => by kernel_rfl⟩
instance : Cf Try.prog 74 := ⟨fun _ _ => by kernel_rfl⟩
instance : Cf Try.prog 75 := ⟨fun _ _ => by kernel_rfl⟩
instance : Cf Try.prog 76 := ⟨fun _ _ => by kernel_rfl⟩
instance : Cf Try.prog 77 := ⟨fun _ _ => by kernel_rfl⟩
instance : Cf Try.prog 78 := ⟨fun _ _ => by kernel_rfl⟩
instance : Cf Try.prog 79 := ⟨fun _ _ => by kernel_rfl⟩
instance : Cf Try.prog 90 := ⟨fun _ _ => by kernel_rfl⟩
instance : Cf Try.prog 91 := ⟨fun _ _ => by kernel_rfl⟩
instance : Cf Try.prog 92 := ⟨fun _ _ => by kernel_rfl⟩
instance : Cf Try.prog 93 := ⟨fun _ _ => by kernel_rfl⟩
instance : Cf Try.prog 99 := ⟨fun _ _ => by kernel_rfl⟩
end Go.Proofs.Ytmcpnoailbmkkaa
/- Maps of the call's own, with a bound on their entries; an entry that is laid first and written then. Over any program. -/
namespace Go.Proofs.Ytmcpnoailbmkkaa
open Go Go.RowKit Go.Proofs Go.Shelf Go.ChangeMaps

def mapK (P : Program) {α β : Type} (kt e : TypeId) (kv : α → Value) (ok : α → Prop) (ed : β → DataW Unit) (b k : Nat) (m : α → Option β) : It where
 foot x := x = b
 holds w := ∃ n c, n ≤ k ∧ MapF P kt e kv ok ed w b n c m
 st _ _ h h1 := by obtain ⟨n, c, h0, h1⟩ := h1; exact ⟨n, c, h0, h1.heap (h b rfl)⟩
section
variable {P : Program} {α β : Type} {kt e t : TypeId} {kv : α → Value} {ok : α → Prop} {ev : β → Value} {ed : β → DataW Unit} {z : β} {okE : β → Prop}
theorem mapK_lt {b k : Nat} {m : α → Option β} {w : World} (h : (mapK P kt e kv ok ed b k m).holds w) : b < w.heap.size := by obtain ⟨n, c, -, h⟩ := h; exact h.lt
theorem mapK_up {b k : Nat} {m : α → Option β} {w w' : World} (h : (mapK P kt e kv ok ed b k m).holds w) (hb : Below w.heap.size w w') : (mapK P kt e kv ok ed b k m).holds w' := by
 obtain ⟨n, c, h0, h1⟩ := h; exact ⟨n, c, h0, h1.up hb⟩
theorem mapK_le {b k k' : Nat} {m : α → Option β} {w : World} (h : (mapK P kt e kv ok ed b k m).holds w) (hk : k ≤ k') : (mapK P kt e kv ok ed b k' m).holds w := by
 obtain ⟨n, c, h0, h1⟩ := h; exact ⟨n, c, Nat.le_trans h0 hk, h1⟩
variable {n : Nat} {B : Bs} {Q : Exit → Act → World → Prop} {l : Sl} {H H' : List It} {ops : Array Oper} {rest : List Oper} {o : Oper} {x y q : Operand}
theorem ow_makeK {d : Nat} (ho : o.op = .makeMap t none) (hd : o.dst = some d) (hn : Nat.ble n d = false) (hm : ∀ w, (Instr.makeMap t none).run P w = .ok (.map (some w.heap.size)) (w.alloc (.map #[] 0))) :
  OpW P n B none l H o (fun b : Nat => B.w.heap.size ≤ b) (fun b => (d, .map (some b)) :: l) (fun b => mapK P kt e kv ok ed b 0 (fun _ => none) :: H) :=
 OpW.of_run hd hn (fun a w _ hw => by
  have hm' : (mapK P kt e kv ok ed w.heap.size 0 (fun _ => none)).holds (w.alloc (.map #[] 0)) := ⟨0, 0, Nat.le_refl _, MapF.made w⟩
  exact ⟨w.heap.size, w.alloc (.map #[] 0), hw.size, by unfold execOp; rw [ho]; simp only [Option.map_none, Sem.run_bind, hm, Result.andThen_ok, Sem.run_pure], hw.new ((Below.refl _ _).alloc (Nat.le_refl _) _) hm' (fun b e => by cases e; simp), (show Below _ _ _ from (Below.refl _ _).alloc (Nat.le_refl _) _)⟩)
theorem rv_lookK {b m' : Nat} {f : α → Option β} {u : Value} (K : KeyL P kt kv ok) (E : ElL P e ev ed z okE) (k : α) (ht : P.underlying t = some (.map kt e)) (ho : o.op = .lookup t x y false) (hx : evl l x = some (.map (some b))) (hy : evl l y = some u) (hm : mapK P kt e kv ok ed b m' f ∈ H) (hu : u = kv k) (hk : ok k) : RV P n B l H o (ev ((f k).getD z)) := fun a w ha hw => by
 obtain ⟨n, c, -, h⟩ := (hw.ok _ hm).1
 unfold execOp; rw [ho]; simp only [ha.ev hx, ha.ev hy, hu, Sem.run_bind, h.look K E ht hk, Result.andThen_ok, Sem.run_pure]
theorem rv_lookK2 {b m' : Nat} {f : α → Option β} {u : Value} {r : Option β} (K : KeyL P kt kv ok) (E : ElL P e ev ed z okE) (k : α) (ht : P.underlying t = some (.map kt e)) (ho : o.op = .lookup t x y true) (hx : evl l x = some (.map (some b))) (hy : evl l y = some u) (hm : mapK P kt e kv ok ed b m' f ∈ H) (hu : u = kv k) (hk : ok k) (hr : f k = r) : RV P n B l H o (.tuple #[ev (r.getD z), .bool r.isSome]) := fun a w ha hw => by
 subst hr
 obtain ⟨n, c, -, h⟩ := (hw.ok _ hm).1
 unfold execOp; rw [ho]; simp only [ha.ev hx, ha.ev hy, hu, Sem.run_bind, h.look2 K E ht hk, Result.andThen_ok, Sem.run_pure]
theorem mapK_old {b m' : Nat} {f : α → Option β} {w : World} (hw : Wd B H w) (hm : ¬ B.m b) (h : (mapK P kt e kv ok ed b m' f).holds B.w) : (mapK P kt e kv ok ed b m' f).holds w := (mapK P kt e kv ok ed b m' f).st B.w w (fun b' e' => by cases e'; exact hw.block _ (mapK_lt h) hm) h
theorem rv_lookKO {b m' : Nat} {f : α → Option β} {u : Value} (K : KeyL P kt kv ok) (E : ElL P e ev ed z okE) (k : α) (ht : P.underlying t = some (.map kt e)) (ho : o.op = .lookup t x y false) (hx : evl l x = some (.map (some b))) (hy : evl l y = some u) (hm : ¬ B.m b) (h0 : (mapK P kt e kv ok ed b m' f).holds B.w) (hu : u = kv k) (hk : ok k) : RV P n B l H o (ev ((f k).getD z)) := fun a w ha hw => by
 obtain ⟨n, c, -, h⟩ := mapK_old hw hm h0
 unfold execOp; rw [ho]; simp only [ha.ev hx, ha.ev hy, hu, Sem.run_bind, h.look K E ht hk, Result.andThen_ok, Sem.run_pure]
theorem rv_lookKO2 {b m' : Nat} {f : α → Option β} {u : Value} {r : Option β} (K : KeyL P kt kv ok) (E : ElL P e ev ed z okE) (k : α) (ht : P.underlying t = some (.map kt e)) (ho : o.op = .lookup t x y true) (hx : evl l x = some (.map (some b))) (hy : evl l y = some u) (hm : ¬ B.m b) (h0 : (mapK P kt e kv ok ed b m' f).holds B.w) (hu : u = kv k) (hk : ok k) (hr : f k = r) : RV P n B l H o (.tuple #[ev (r.getD z), .bool r.isSome]) := fun a w ha hw => by
 subst hr
 obtain ⟨n, c, -, h⟩ := mapK_old hw hm h0
 unfold execOp; rw [ho]; simp only [ha.ev hx, ha.ev hy, hu, Sem.run_bind, h.look2 K E ht hk, Result.andThen_ok, Sem.run_pure]
theorem ow_putK [DecidableEq α] {b m' m'' : Nat} {f : α → Option β} {u s : Value} (K : KeyL P kt kv ok) (E : ElL P e ev ed z okE) (k : α) (r : β) (ht : P.underlying t = some (.map kt e)) (ho : o.op = .mapUpdate t x y q) (hd : o.dst = none) (hx : evl l x = some (.map (some b))) (hy : evl l y = some u) (hq : evl l q = some s) (hu : u = kv k) (hs : s = ev r)
  (hat : At (mapK P kt e kv ok ed b m' f) (mapK P kt e kv ok ed b m'' (upd f k r)) H H') (hk : ok k) (hr : okE r) (hmn : m' < 1000000) (hm2 : m' + 1 ≤ m'') : OpW P n B (some (mapK P kt e kv ok ed b m' f)) l H o (fun _ : Unit => True) (fun _ => l) (fun _ => H') :=
 OpW.of_skip hd (fun a w ha hw => by
  obtain ⟨n, c, h0, h⟩ := (hw.ok _ hat.mem).1
  obtain ⟨w', h1, h2, h3⟩ := h.put K E ht (by omega) hk hr
  have hc : Chg (mapK P kt e kv ok ed b m' f) w w' := ⟨h3.os, h3.tape, h3.output, h3.size, fun k hk hnk => h3.block k hk (fun e => hnk (by injection e))⟩
  refine ⟨(), w', trivial, by unfold execOp; rw [ho]; simp only [ha.ev hx, ha.ev hy, ha.ev hq, hu, hs, Sem.run_bind, h1, Result.andThen_ok, Sem.run_pure], hw.chg hat rfl rfl hc ⟨_, _, by omega, h2⟩ (fun k hk => ⟨.inl hk, ?_⟩), hc⟩
  have : k = b := hk
  subst this
  exact h2.lt)
/-- An entry is laid; it is to be written. -/
def entK (P : Program) {α β : Type} [DecidableEq α] (kt e t : TypeId) (kv : α → Value) (ok : α → Prop) (ev : β → Value) (ed : β → DataW Unit) (okE : β → Prop) (b k : Nat) (m : α → Option β) (x : α) (st : Nat) : It where
 foot i := i = b
 holds w := b < w.heap.size ∧ ∃ es1 clock1, w.heap[b]? = some (.map es1 clock1) ∧ ∀ (w2 : World) (v : β), okE v → b < w2.heap.size → w2.heap[b]? = some (.map es1 clock1) → ∃ es' clock', (Instr.entryStore t (.map (some b)) (goInt st) (ev v)).run P w2 = .ok () (setBlock w2 b (.map es' clock')) ∧ (mapK P kt e kv ok ed b k (upd m x v)).holds (setBlock w2 b (.map es' clock'))
 st w w' h h1 := by
  obtain ⟨h0, es1, clock1, h1, h2⟩ := h1
  have e := (h b rfl).trans h1
  exact ⟨(Array.getElem?_eq_some_iff.1 e).1, es1, clock1, e, h2⟩
theorem setBlock_heap {w : World} {b : Nat} (o : Obj) (h : b < w.heap.size) : (setBlock w b o).heap[b]? = some o := by simp [setBlock, h]
theorem ow_entK [DecidableEq α] {G : Nat → List It} {d b m' m'' : Nat} {f : α → Option β} {u : Value} (KL : WideMaps.KeyLaw P kt) (K : KeyL P kt kv ok) (E : ElL P e ev ed z okE) (k : α) (ht : P.underlying t = some (.map kt e)) (ho : o.op = .mapEntry t x y) (hd : o.dst = some d) (hn : Nat.ble n d = false) (hx : evl l x = some (.map (some b))) (hy : evl l y = some u) (hu : u = kv k)
  (hat : ∀ s, At (mapK P kt e kv ok ed b m' f) (entK P kt e t kv ok ev ed okE b m'' f k s) H (G s)) (hk : ok k) (hmn : m' < 1000000) (hm2 : m' + 1 ≤ m'') : OpW P n B (some (mapK P kt e kv ok ed b m' f)) l H o (T := Value × Nat) (fun _ => True) (fun t => (d, .tuple #[t.1, goInt t.2]) :: l) (fun t => G t.2) :=
 OpW.of_run (T := Value × Nat) hd hn (V := fun t => .tuple #[t.1, goInt t.2]) (fun a w ha hw => by
  obtain ⟨n0, c, h0, h⟩ := (hw.ok _ (hat 0).mem).1
  have hmf := h
  obtain ⟨D, ⟨es, clock, hb, F, hs, hD⟩, hc0, hmap⟩ := h
  obtain ⟨kl, hkl⟩ := K.key k hk
  obtain ⟨v0, st, es1, clock1, r1, -, r3⟩ := Go.WideElems.entry_then_store KL ht E.zero hb F hkl
  have hlt : b < w.heap.size := hmf.lt
  have hcg : Chg (mapK P kt e kv ok ed b m' f) w (setBlock w b (.map es1 clock1)) := ⟨rfl, rfl, rfl, by simp [setBlock], fun i _ hi => heap_setBlock_other hb _ (fun e => hi e)⟩
  refine ⟨(v0, st), setBlock w b (.map es1 clock1), trivial, by unfold execOp; rw [ho]; simp only [ha.ev hx, ha.ev hy, hu, Sem.run_bind, r1, Result.andThen_ok, Sem.run_pure], hw.chg (hat st) rfl rfl hcg ?_ (fun i hi => ⟨.inl hi, ?_⟩), hcg⟩
  ·refine ⟨by simpa [setBlock] using hlt, es1, clock1, setBlock_heap _ hlt, fun w2 v hv hlt2 hw2 => ?_⟩
   obtain ⟨es', clock', q1, q2⟩ := r3 w2 (ev v) hw2
   obtain ⟨w', p1, p2, p3⟩ := hmf.put K E ht (by omega) hk hv
   rw [q2] at p1
   injection p1 with _ p1
   refine ⟨es', clock', q1, n0 + 1, _, by omega, p2.heap ?_⟩
   rw [← p1, setBlock_heap _ hlt, setBlock_heap _ hlt2]
  ·have : i = b := hi
   subst this
   simpa [setBlock] using hlt)
theorem ow_entStore [DecidableEq α] {b m' : Nat} {f : α → Option β} {k : α} {st : Nat} {s : Value} (v : β) (ho : o.op = .entryStore t x y q) (hd : o.dst = none) (hx : evl l x = some (.map (some b))) (hy : evl l y = some (goInt st)) (hq : evl l q = some s) (hs : s = ev v) (hv : okE v)
  (hat : At (entK P kt e t kv ok ev ed okE b m' f k st) (mapK P kt e kv ok ed b m' (upd f k v)) H H') : OpW P n B (some (entK P kt e t kv ok ev ed okE b m' f k st)) l H o (fun _ : Unit => True) (fun _ => l) (fun _ => H') :=
 OpW.of_skip hd (fun a w ha hw => by
  obtain ⟨hlt, es1, clock1, hb, h⟩ := (hw.ok _ hat.mem).1
  obtain ⟨es', clock', r1, r2⟩ := h w v hv hlt hb
  have hcg : Chg (entK P kt e t kv ok ev ed okE b m' f k st) w (setBlock w b (.map es' clock')) := ⟨rfl, rfl, rfl, by simp [setBlock], fun i _ hi => heap_setBlock_other hb _ (fun e => hi e)⟩
  refine ⟨(), setBlock w b (.map es' clock'), trivial, by unfold execOp; rw [ho]; simp only [ha.ev hx, ha.ev hy, ha.ev hq, hs, Sem.run_bind, r1, Result.andThen_ok, Sem.run_pure], hw.chg hat rfl rfl hcg r2 (fun i hi => ⟨.inl hi, ?_⟩), hcg⟩
  have : i = b := hi
  subst this
  simpa [setBlock] using hlt)
/-- A map's item with a wider bound. -/
theorem J_leK {b k k' : Nat} {m : α → Option β} {c : Code} (hat : At (mapK P kt e kv ok ed b k m) (mapK P kt e kv ok ed b k' m) H H') (hk : k ≤ k') (h : J P n B c Q l H') : J P n B c Q l H := fun a w h1 h2 => h a w h1 (h2.turn hat (fun h => h) (mapK_le (h2.ok _ hat.mem).1 hk) (fun _ h => h))
theorem JQ_leK {b k k' : Nat} {m : α → Option β} {ex : Exit} (hat : At (mapK P kt e kv ok ed b k m) (mapK P kt e kv ok ed b k' m) H H') (hk : k ≤ k') (h : JQ n B Q ex l H') : JQ n B Q ex l H := fun a w h1 h2 => h a w h1 (h2.turn hat (fun h => h) (mapK_le (h2.ok _ hat.mem).1 hk) (fun _ h => h))
end
end Go.Proofs.Ytmcpnoailbmkkaa
/- A range over a map of the call's own. Over any program. -/
namespace Go.Proofs.Ytmcpnoailbmkkaa
open Go Go.RowKit Go.Proofs Go.Shelf

section
variable {P : Program} {α β : Type} [DecidableEq α] {kt e t : TypeId} {kv : α → Value} {ok : α → Prop} {ev : β → Value} {ed : β → DataW Unit} {z : β} {okE : β → Prop}
theorem entry_same {r b : Nat} {es : Array MapEntry} {clock since c0 : Nat} {seen : Array Nat} {w w' : World} {v : Value} (hr : w.heap[r]? = some (.mapIter (some b) since seen c0)) (hb : w.heap[b]? = some (.map es clock)) (hr' : w'.heap[r]? = w.heap[r]?) (hb' : w'.heap[b]? = w.heap[b]?)
  (h : (Instr.entry (.pointer (some ⟨r, 0, none⟩))).run P w = .ok v w) : (Instr.entry (.pointer (some ⟨r, 0, none⟩))).run P w' = .ok v w' := by
 have hr2 := hr'.trans hr
 have hb2 := hb'.trans hb
 cases h1 : seen.back? with
 | none => simp [Instr.entry, getObj, Sem.run, hr, Result.andThen, h1] at h
 | some s =>
  by_cases h2 : clock = c0
  ·cases h3 : es.find? (·.born == s) with
   | none => simp [Instr.entry, getObj, Sem.run, hr, hb, Result.andThen, h1, h2, h3] at h
   | some x =>
    simp [Instr.entry, getObj, Sem.run, hr, hb, Result.andThen, h1, h2, h3] at h
    simp [Instr.entry, getObj, Sem.run, hr2, hb2, Result.andThen, h1, h2, h3, h]
  ·simp [Instr.entry, getObj, Sem.run, hr, hb, Result.andThen, h1, h2] at h
/-- A map over which a range runs: S are the keys that were met, cnt are still to come; last is the one that was met last. -/
def rngK (P : Program) {α β : Type} [DecidableEq α] (kt e : TypeId) (kv : α → Value) (ok : α → Prop) (ev : β → Value) (ed : β → DataW Unit) (b r k cnt : Nat) (m : α → Option β) (S : List α) (last : Option (α × β)) : It where
 foot i := i = b ∨ i = r
 holds w := ∃ (n : Nat) (D : DataW Unit) (left : Lit → Bool), n ≤ k ∧ w.ranges P kt (rdE P e) b r n D left cnt ∧ (∀ x kl, ok x → keyOf P kt (kv x) = some kl → Maps.has D kl = (m x).isSome ∧ (∀ u, D.atKey kl u = match m x with | some v => ed v | none => u) ∧ left kl = ((m x).isSome && decide (x ∉ S))) ∧
  ∀ x v, last = some (x, v) → (Instr.entry (.pointer (some ⟨r, 0, none⟩))).run P w = .ok (.tuple #[kv x, ev v]) w
 st w w' h h1 := by
  obtain ⟨n, D, left, h0, ⟨es, clock, since, seen, c0, q1, q2, q3, q4, q5, q6⟩, h2, h3⟩ := h1
  refine ⟨n, D, left, h0, ⟨es, clock, since, seen, c0, (h b (.inl rfl)).trans q1, q2, q3, q4, (h r (.inr rfl)).trans q5, q6⟩, h2, fun x v hx => entry_same q5 q1 (h r (.inr rfl)) (h b (.inl rfl)) (h3 x v hx)⟩
variable {n : Nat} {B : Bs} {Q : Exit → Act → World → Prop} {l : Sl} {H H' : List It} {o : Oper} {x y q : Operand}
theorem ow_range {d b m' : Nat} {f : α → Option β} {G : Nat → Nat → List It} (K : KeyL P kt kv ok) (ht : P.underlying t = some (.map kt e)) (ho : o.op = .range t x) (hd : o.dst = some d) (hn : Nat.ble n d = false) (hx : evl l x = some (.map (some b))) (hat : ∀ r c, At (mapK P kt e kv ok ed b m' f) (rngK P kt e kv ok ev ed b r m' c f [] none) H (G r c)) :
  OpW P n B (some (mapK P kt e kv ok ed b m' f)) l H o (T := Nat × Nat) (fun t => B.w.heap.size ≤ t.1) (fun t => (d, .pointer (some ⟨t.1, 0, none⟩)) :: l) (fun t => G t.1 t.2) :=
 OpW.of_run (T := Nat × Nat) hd hn (V := fun t => .pointer (some ⟨t.1, 0, none⟩)) (fun a w ha hw => by
  obtain ⟨n0, c, h0, D, h1, h2, h3⟩ := (hw.ok _ (hat 0 0).mem).1
  obtain ⟨w', r1, r2, r3, r4⟩ := h1.range K.law ht
  have hcg : Chg (mapK P kt e kv ok ed b m' f) w w' := ⟨r3.os, r3.tape, r3.output, r3.size, fun i hi _ => r3.block i hi (by simp)⟩
  refine ⟨(w.heap.size, Maps.size D), w', hw.size, by unfold execOp; rw [ho]; simp only [ha.ev hx, Sem.run_bind, r1, Result.andThen_ok, Sem.run_pure], hw.chg (hat w.heap.size (Maps.size D)) rfl rfl hcg ⟨n0, D, _, h0, r2, fun x kl hx' hk => ?_, fun _ _ h => by cases h⟩ (fun i hi => ?_), hcg⟩
  ·obtain ⟨q1, q2⟩ := h3 x kl hx' hk
   exact ⟨q1, q2, by simp [q1]⟩
  ·rcases hi with rfl | rfl
   ·exact ⟨.inl rfl, by rw [r4]; exact Nat.lt_succ_of_lt h1.lt⟩
   ·exact ⟨.inr (Nat.le_refl _), by rw [r4]; exact Nat.lt_succ_self _⟩)
def nxV (kv : α → Value) (ev : β → Value) : Option (α × β × Nat) → Value
 | none => .tuple #[.bool false]
 | some (x, v, _) => .tuple #[.bool true, kv x, ev v]
def nxP (ok : α → Prop) (f : α → Option β) (S : List α) (cnt : Nat) : Option (α × β × Nat) → Prop
 | none => ∀ x, ok x → (f x).isSome = true → x ∈ S
 | some (x, v, c') => ok x ∧ f x = some v ∧ x ∉ S ∧ c' < cnt
def nxI (P : Program) (kt e : TypeId) (kv : α → Value) (ok : α → Prop) (ev : β → Value) (ed : β → DataW Unit) (b r k cnt : Nat) (m : α → Option β) (S : List α) (last : Option (α × β)) : Option (α × β × Nat) → It
 | none => rngK P kt e kv ok ev ed b r k cnt m S last
 | some (x, v, c') => rngK P kt e kv ok ev ed b r k c' m (x :: S) (some (x, v))
theorem ow_next {d b r m' cnt : Nat} {f : α → Option β} {S : List α} {last : Option (α × β)} {G : Option (α × β × Nat) → List It} (K : KeyL P kt kv ok) (KI : ∀ key kl, keyOf P kt key = some kl → ∃ x, key = kv x ∧ ok x) (E : ElL P e ev ed z okE) (ho : o.op = .next x false) (hd : o.dst = some d) (hn : Nat.ble n d = false) (hx : evl l x = some (.pointer (some ⟨r, 0, none⟩)))
  (hat : ∀ u, At (rngK P kt e kv ok ev ed b r m' cnt f S last) (nxI P kt e kv ok ev ed b r m' cnt f S last u) H (G u)) :
  OpW P n B (some (rngK P kt e kv ok ev ed b r m' cnt f S last)) l H o (T := Option (α × β × Nat)) (nxP ok f S cnt) (fun u => (d, nxV kv ev u) :: l) G :=
 OpW.of_run (T := Option (α × β × Nat)) hd hn (V := nxV kv ev) (fun a w ha hw => by
  have hI := hw.ok _ (hat none).mem
  obtain ⟨n0, D, left, h0, h1, h2, h3⟩ := hI.1
  rcases h1.next K.law o.type with ⟨hc0, hl, hrun⟩ | ⟨key, v, kl, yy, w', cnt', hkey, hlk, hv, hat', hrun, hrg, hlt, hgr, hsz, hen⟩
  ·refine ⟨none, w, fun x hx' hs => ?_, by unfold execOp; rw [ho]; simp only [ha.ev hx, Sem.run_bind, hrun, Result.andThen_ok, Sem.run_pure]; rfl, ?_, ⟨rfl, rfl, rfl, Nat.le_refl _, fun _ _ _ => rfl⟩⟩
   ·obtain ⟨kl, hk⟩ := K.key x hx'
    have := (h2 x kl hx' hk).2.2
    rw [hl, hs] at this
    simpa using this
   ·exact hw.turn (hat none) (fun h => h) hI.1 (fun _ h => h)
  ·obtain ⟨x0, rfl, hx0⟩ := KI key kl hkey
   obtain ⟨g1, g2, g3⟩ := h2 x0 kl hx0 hkey
   rw [hlk] at g3
   have g4 := (Bool.and_eq_true_iff.1 g3.symm)
   obtain ⟨v0, hv0⟩ := Option.isSome_iff_exists.1 g4.1
   have hyy : yy.1 = ed v0 := by
    have e1 := hat' (.lit (.bool true))
    rw [g2, hv0] at e1
    exact e1.symm
   have hvv : v = ev v0 := E.inv v v0 yy.2 (by rw [hv, ← hyy])
   subst hvv
   have hcg : Chg (rngK P kt e kv ok ev ed b r m' cnt f S last) w w' := ⟨hgr.os, hgr.tape, hgr.output, hgr.size, fun i hi hni => hgr.block i hi (fun e' => hni (.inr (by injection e')))⟩
   refine ⟨some (x0, v0, cnt'), w', ⟨hx0, hv0, of_decide_eq_true g4.2, hlt⟩, by unfold execOp; rw [ho]; simp only [ha.ev hx, Sem.run_bind, hrun, Result.andThen_ok, Sem.run_pure]; rfl, hw.chg (hat (some (x0, v0, cnt'))) rfl rfl hcg ⟨n0, D, _, h0, hrg, fun x kl' hx' hk => ?_, fun x v h => ?_⟩ (fun i hi => ⟨.inl hi, by rw [hsz]; exact (hI.2 i hi).2⟩), hcg⟩
   ·obtain ⟨q1, q2, q3⟩ := h2 x kl' hx' hk
    refine ⟨q1, q2, ?_⟩
    have hiff : kl'.sameKey kl = decide (x = x0) := by
     rw [Bool.eq_iff_iff, decide_eq_true_eq, WideAt.sameKey_iff (K.law.key hkey)]
     constructor
     ·rintro rfl; exact K.inj _ _ (K.law.inj hk hkey)
     ·rintro rfl; rw [hk] at hkey; injection hkey
    show (left kl' && !kl'.sameKey kl) = _
    rw [q3, hiff]
    by_cases e1 : x = x0 <;> by_cases e2 : x ∈ S <;> simp [e1, e2]
   ·injection h with h; injection h with h1 h2; subst h1 h2; exact hen)
theorem rv_entry {b r m' cnt : Nat} {f : α → Option β} {S : List α} {k : α} {v : β} (ho : o.op = .entry x) (hx : evl l x = some (.pointer (some ⟨r, 0, none⟩))) (hm : rngK P kt e kv ok ev ed b r m' cnt f S (some (k, v)) ∈ H) : RV P n B l H o (.tuple #[kv k, ev v]) := fun a w ha hw => by
 obtain ⟨n0, D, left, h0, h1, h2, h3⟩ := (hw.ok _ hm).1
 unfold execOp; rw [ho]; simp only [ha.ev hx, Sem.run_bind, h3 k v rfl, Result.andThen_ok, Sem.run_pure]
/-- The range is over: the map again. -/
theorem J_rngEnd {c : Code} {b r m' cnt : Nat} {f : α → Option β} {S : List α} {last : Option (α × β)} (hat : At (rngK P kt e kv ok ev ed b r m' cnt f S last) (mapK P kt e kv ok ed b m' f) H H') (h : J P n B c Q l H') : J P n B c Q l H := fun a w h1 h2 => h a w h1 (h2.turn hat (fun h => h) (by
 obtain ⟨n0, D, left, q0, q1, q2, -⟩ := (h2.ok _ hat.mem).1
 exact ⟨n0, Maps.size D, q0, D, q1.owns, rfl, fun x kl hx hk => ⟨(q2 x kl hx hk).1, (q2 x kl hx hk).2.1⟩⟩) (fun _ h => .inl h))
end
end Go.Proofs.Ytmcpnoailbmkkaa
/- A range over a function whose iterator reads what the rounds write. Over any program. -/
namespace Go.Proofs.Ytmcpnoailbmkkaa
open Go Go.RowKit Go.Proofs Go.Shelf
attribute [local go_sem] Oper.semAt_some

def mark (D : Nat) : Deferred := { target := .collected D, args := #[] }
/-- The blocks of the loops that are done. -/
def defsB (Ds : List Nat) : It where
 foot b := b ∈ Ds
 holds w := Ds.Nodup ∧ ∀ D ∈ Ds, w.heap[D]? = some (.deferred (some []))
 st _ _ h h1 := ⟨h1.1, fun D hD => (h D hD).trans (h1.2 D hD)⟩
/-- The record of a loop that runs. -/
def loopB (lp : Nat) (L : Loop) (Ds : List Nat) : It where
 foot b := b = lp ∨ b ∈ Ds
 holds w := lp ∉ Ds ∧ Ds.Nodup ∧ w.heap[lp]? = some (.loop L) ∧ ∀ D ∈ Ds, w.heap[D]? = some (.deferred (some []))
 st _ _ h h1 := ⟨h1.1, h1.2.1, (h lp (.inl rfl)).trans h1.2.2.1, fun D hD => (h D (.inr hD)).trans (h1.2.2.2 D hD)⟩
section
variable {P : Program} {n : Nat} {B : Bs} {Q : Exit → Act → World → Prop} {l : Sl} {H H' : List It} {c : Code} {w w' : World}
theorem Wd.re (h : Wd B H w) (r : Option Nat) (d : List Deferred) : Wd ⟨B.w, B.m, r, d⟩ H w := ⟨h.os, h.tape, h.output, h.size, h.block, h.ok, h.sep⟩
theorem Wd.un {w0 : World} {m : Nat → Prop} {r r' : Option Nat} {d d' : List Deferred} (h : Wd ⟨w0, m, r, d⟩ H w) : Wd ⟨w0, m, r', d'⟩ H w := ⟨h.os, h.tape, h.output, h.size, h.block, h.ok, h.sep⟩
theorem J_defs (h : J P n B c Q l (defsB [] :: H)) : J P n B c Q l H := fun a w ha hw => h a w ha (hw.new (Below.refl _ _) ⟨List.nodup_nil, fun _ h => (by cases h)⟩ (fun _ h => (by cases h)))
theorem Chg.putObj {A : It} {b : Nat} {o' : Obj} (hA : A.foot b) : Chg A w (w.putObj b o') :=
 ⟨(grownBy_putObj' w b o').os, (grownBy_putObj' w b o').tape, (grownBy_putObj' w b o').output, (grownBy_putObj' w b o').size, fun _ _ hf => World.putObj_heap_other (fun e => hf (e ▸ hA))⟩
theorem Wd.loop {lp : Nat} {L L' : Loop} {Ds : List Nat} (h : Wd B H w) (hat : At (loopB lp L Ds) (loopB lp L' Ds) H H') : Wd B H' (w.putObj lp (.loop L')) := by
 have hh := (h.ok _ hat.mem).1
 have hlt : lp < w.heap.size := (Array.getElem?_eq_some_iff.1 hh.2.2.1).1
 have hc : Chg (loopB lp L Ds) w (w.putObj lp (.loop L')) := Chg.putObj (.inl rfl)
 refine h.chg hat rfl rfl hc ⟨hh.1, hh.2.1, World.putObj_heap_same hlt, fun D hD => (World.putObj_heap_other (fun (e : D = lp) => hh.1 (by rw [← e]; exact hD))).trans (hh.2.2.2 D hD)⟩ (fun b hb => ⟨.inl hb, ?_⟩)
 have := ((h.ok _ hat.mem).2 b hb).2
 exact Nat.lt_of_lt_of_le this hc.size
theorem J_setK {P : Program} {α : Type} [DecidableEq α] {kt b : Nat} {kv : α → Value} {ok : α → Prop} {S : List α} (hat : At (setB P kt kv ok b S) (mapK P kt 4 kv ok dB b S.length (setG S)) H H') (h : J P n B c Q l H') : J P n B c Q l H := fun a w h1 h2 => h a w h1 (h2.turn hat (fun h => h) (h2.ok _ hat.mem).1 (fun _ h => h))
theorem J_kSet {P : Program} {α : Type} [DecidableEq α] {kt b : Nat} {kv : α → Value} {ok : α → Prop} {S : List α} {x : α} (hat : At (mapK P kt 4 kv ok dB b (x :: S).length (upd (setG S) x true)) (setB P kt kv ok b (x :: S)) H H') (h : J P n B c Q l H') : J P n B c Q l H := fun a w h1 h2 => h a w h1 (h2.turn hat (fun h => h) (by have := (h2.ok _ hat.mem).1; rw [setG_upd] at this; exact this) (fun _ h => h))
/-- The contract of an iterator f with what it has captured: T the states, Y what it hands out. -/
def Itr (P : Program) {T Y : Type} (f : FuncId) (caps : Array Value) (B : Bs) (φ : T → Prop) (HH : T → It → List It) (Yk : T → Y → Prop) (V : Y → Value) (HG : T → Y → It → List It) (Rn : T → T → Prop) (fin : T → Prop) : Prop :=
 ∀ (lp : Nat) (X : It) (t0 : T) (W : World), φ t0 → Wd B (HH t0 X) W →
  (∀ t y W1, φ t → Yk t y → Wd B (HG t y X) W1 → ∀ m, YieldAt Fence.wide m P lp #[V y] W1 (fun e W2 => e = .returned (.bool true) ∧ ∃ t', Rn t t' ∧ φ t' ∧ Wd B (HH t' X) W2)) →
  Calls P f (#[.func (.yield lp) #[] #[]] ++ caps) W (fun e W' => (∃ v, e = .returned v) ∧ ∃ t, φ t ∧ fin t ∧ Wd B (HH t X) W')
set_option maxHeartbeats 2000000 in
theorem J_range {T Y : Type} {g : Operand} {p : Nat} {assign body : Code} {f : FuncId} {caps : Array Value} [hf : Cf P f] (φ : T → Prop) (HH : T → It → List It) (Yk : T → Y → Prop) (V : Y → Value) (HG : T → Y → It → List It) (Rn : T → T → Prop) (fin : T → Prop) {Ds : List Nat} (l1 : Y → Sl)
  (hit : Itr P f caps ⟨B.w, B.m, none, []⟩ φ HH Yk V HG Rn fin) (t0 : T) (h0 : φ t0)
  (has : ∀ lp t y X, φ t → Yk t y → J P n ⟨B.w, B.m, some lp, []⟩ assign (Exit.then (CutP n ⟨B.w, B.m, some lp, []⟩ (fun _ : Unit => True) (fun _ => l1 y) (fun _ => HG t y X)) (fun _ _ _ => False)) ((p, V y) :: l) (HG t y X))
  (hbd : ∀ lp t y X, φ t → Yk t y → J P n ⟨B.w, B.m, some lp, []⟩ body (Exit.then (CutP n ⟨B.w, B.m, some lp, []⟩ (fun t' => Rn t t' ∧ φ t') (fun _ => []) (fun t' => HH t' X)) (fun _ _ _ => False)) (l1 y) (HG t y X))
  (k : ∀ D t, φ t → fin t → JQ n ⟨B.w, B.m, none, (D :: Ds).map mark⟩ Q .normal l (HH t (defsB (D :: Ds))))
  (hr : B.r = none := by rfl) (hd : B.d = Ds.map mark := by rfl) (hg : evl l g = some (.func (.func f) #[] caps) := by rfl) (hp : Nat.ble n p = false := by rfl)
  (hH : Pk (HH t0 (defsB Ds)) H := by repeat constructor) (a1 : ∀ t A C, At A C (HH t A) (HH t C) := by intro t A C; repeat constructor) (a2 : ∀ t y A C, At A C (HG t y A) (HG t y C) := by intro t y A C; repeat constructor) :
  J P n B (.rangeFunc g #[p] assign body) Q l H := by
 intro a w ha hw m
 rw [hr]
 have hF := hf.h
 have hw0 : Wd ⟨B.w, B.m, none, []⟩ (HH t0 (defsB Ds)) w := (hw.pick hH).re _ _
 clear hw hH
 refine wpIn_rangeFunc ?_
 intro fn hfn
 obtain ⟨rec, hrec⟩ : ∃ rec : LoopState → Option Code → Loop, rec = fun st pe => { state := st, pending := pe, fn, tmps := a.tmps, params := #[p], assign, body, defers := w.heap.size } := ⟨_, rfl⟩
 obtain ⟨W1, hW1⟩ : ∃ W1, (w.alloc (.deferred (some []))).alloc (.loop (rec .ready none)) = W1 := ⟨_, rfl⟩
 have hL1 : W1.heap[w.heap.size + 1]? = some (.loop (rec .ready none)) := by
  rw [← hW1]; have := World.alloc_heap_new (w.alloc (.deferred (some []))) (.loop (rec .ready none)); rwa [World.size_alloc] at this
 have hK1 : W1.heap[w.heap.size]? = some (.deferred (some [])) := by
  rw [← hW1]; exact (Below.heap_alloc _ _ _ (by simp)).trans (World.alloc_heap_new w _)
 have hb1 : Below w.heap.size w W1 := by rw [← hW1]; exact ((Below.refl _ _).alloc (Nat.le_refl _) _).alloc (by simp) _
 have hz1 : W1.heap.size = w.heap.size + 2 := by rw [← hW1]; simp
 have hmem := (a1 t0 (defsB Ds) (defsB Ds)).mem
 have hD0 := hw0.ok _ hmem
 have hnew : w.heap.size ∉ Ds := fun h => Nat.lt_irrefl _ (hD0.2 _ h).2
 have hnew1 : w.heap.size + 1 ∉ Ds := fun h => by have := (hD0.2 _ h).2; omega
 have hw1 : Wd ⟨B.w, B.m, none, []⟩ (HH t0 (loopB (w.heap.size + 1) (rec .ready none) (w.heap.size :: Ds))) W1 := by
  refine hw0.chg (a1 t0 _ _) rfl rfl ⟨hb1.os, hb1.tape, hb1.output, hb1.size, fun b hb _ => hb1.block b hb⟩ ⟨by simp [hnew1], List.nodup_cons.2 ⟨hnew, hD0.1.1⟩, hL1, fun D hD => ?_⟩ (fun b hb => ?_)
  ·rcases List.mem_cons.1 hD with rfl | hD
   ·exact hK1
   ·exact (hb1.block D (hD0.2 D hD).2).trans (hD0.1.2 D hD)
  ·rcases hb with rfl | hb
   ·exact ⟨.inr (by omega), by omega⟩
   ·rcases List.mem_cons.1 hb with rfl | hb
    ·exact ⟨.inr (Nat.le_refl _), by omega⟩
    ·exact ⟨.inl hb, by have := (hD0.2 b hb).2; omega⟩
 refine ⟨w.heap.size + 1, [mark w.heap.size], W1, { target := .fn (.func f) caps, args := #[.func (.yield (w.heap.size + 1)) #[] #[]] }, W1, f,
  #[.func (.yield (w.heap.size + 1)) #[] #[]] ++ caps, W1, ?_, ?_, ?_, ?_, fun h => (by cases h), ?_⟩
 ·rw [← hW1, hrec]; exact run_enterLoop_outer _ _ _ _ _
 ·simp only [resolve, ha.evD hg]
  simp [go_sem]
 ·intro f' _; exact trivial
 ·simp [invoke, go_sem, hF]
 refine (callsIn_wide.2 (hit (w.heap.size + 1) (loopB (w.heap.size + 1) (rec .ready none) (w.heap.size :: Ds)) t0 W1 h0 hw1 ?_)).mono ?_
 ·intro t y W ht hy hwW m'
  have hX := (hwW.ok _ (a2 t y (loopB (w.heap.size + 1) (rec .ready none) (w.heap.size :: Ds)) (loopB (w.heap.size + 1) (rec .ready none) (w.heap.size :: Ds))).mem).1
  have hl := hX.2.2.1
  have hy1 := run_yield (P := P) (args := #[V y]) hl (by rw [hrec]; simp)
  rw [hrec] at hy1
  refine ⟨fn, _, assign, body, hy1, roundIn_of_wpIn trivial ?_⟩
  have hfr : Fr n ((p, V y) :: l) { tmps := a.tmps.setIfInBounds p (V y), defers := [] } := by
   have h := ha.put p (V y) hp
   exact ⟨h.size, rfl, h.get⟩
  have hA := has (w.heap.size + 1) t y _ ht hy _ W hfr hwW.un m'
  refine wpIn_mono (Q := NO _) (by simpa [Bs.df, wr, Fence.inRound] using hA) ?_
  intro e a2' w2 hq
  cases e with
  | normal =>
   obtain ⟨_, -, a0, rfl, hf0, hw2⟩ := hq
   have hX2 := (hw2.ok _ (a2 t y (loopB (w.heap.size + 1) (rec .ready none) (w.heap.size :: Ds)) (loopB (w.heap.size + 1) (rec .ready none) (w.heap.size :: Ds))).mem).1
   refine ⟨_, run_beginRound hX2.2.2.1 (by rw [hrec]), ?_⟩
   have hw3 := hw2.loop (L' := { rec .ready none with state := .busy }) (a2 t y _ _)
   refine wpIn_mono (hbd (w.heap.size + 1) t y _ ht hy a0 _ hf0 hw3 m') ?_
   intro e a3 w4 hq
   cases e with
   | normal =>
    obtain ⟨t', ⟨hR, hφ⟩, a4, rfl, -, hw5⟩ := hq
    have hX5 := (hw5.ok _ (a1 t' (loopB (w.heap.size + 1) { rec .ready none with state := .busy } (w.heap.size :: Ds)) (loopB (w.heap.size + 1) { rec .ready none with state := .busy } (w.heap.size :: Ds))).mem).1
    refine ⟨_, _, run_endRound none hX5.2.2.1, rfl, t', hR, hφ, ?_⟩
    have := hw5.loop (L' := rec .ready none) (a1 t' _ _)
    rw [hrec] at this ⊢
    exact this.un
   | _ => exact hq.elim
  | _ => exact hq.elim
 ·rintro e W2 ⟨⟨u, rfl⟩, t, hφ, hfin, hw2⟩
  have hX2 := (hw2.ok _ (a1 t (loopB (w.heap.size + 1) (rec .ready none) (w.heap.size :: Ds)) (loopB (w.heap.size + 1) (rec .ready none) (w.heap.size :: Ds))).mem).1
  refine ⟨none, _, (run_endLoop hX2.2.2.1 (by rw [hrec]; simp)).trans (by rw [hrec]), ?_⟩
  have hw3 := hw2.loop (L' := { rec .ready none with state := .exhausted }) (a1 t _ _)
  have hX3 := (hw3.ok _ (a1 t (loopB (w.heap.size + 1) { rec .ready none with state := .exhausted } (w.heap.size :: Ds)) (loopB (w.heap.size + 1) { rec .ready none with state := .exhausted } (w.heap.size :: Ds))).mem).1
  have hw4 := hw3.turn (a1 t _ (defsB (w.heap.size :: Ds))) (fun h => (by cases h)) ⟨hX3.2.1, hX3.2.2.2⟩ (fun b hb => .inr hb)
  have hk := k w.heap.size t hφ hfin a _ ha (by rw [hrec] at hw4; exact hw4.un)
  show Q .normal _ _
  have e : ({ B.df a with defers := [mark w.heap.size] ++ (B.df a).defers } : Act) = (⟨B.w, B.m, none, (w.heap.size :: Ds).map mark⟩ : Bs).df a := by
   simp [Bs.df, hd]
  rw [e]
  exact hk
/-! ### A function with such loops -/
theorem J_startM {f : FuncId} {fn : Func} {args : Array Value} {w : World} {R : Ending → World → Prop} (hr : B.r = none) (hd : B.d = []) {vs : List Value} {k : Nat} (hf : P.funcs[f]? = some fn) (hb : fn.body = some c) (ha : args = vs.toArray) (hn : fn.ntmps = n) (hk : vs.length + k = n) (hl : en 0 vs = l)
  (hH : Wd B H w) (h : J P n B c (bodyPostM Fence.wide 0 P fn R) l H) : Calls P f args w R := by
 subst ha hl
 refine (callsIn_wide (n := 0)).1 (callsIn_of_wp_marks hf hb trivial ?_ rfl)
 have e : fn.ntmps - vs.toArray.size = k := by simp; omega
 rw [e]
 have h1 := h { tmps := vs.toArray ++ Array.replicate k undef, defers := [] } w (by rw [← hk]; exact Fr.start vs k) hH
 unfold Wp at h1
 rw [hr] at h1
 have e2 : B.df { tmps := vs.toArray ++ Array.replicate k undef, defers := [] } = { tmps := vs.toArray ++ Array.replicate k undef, defers := [] } := by unfold Bs.df; rw [hd]
 rw [e2] at h1
 exact wpIn_mono (h1 0) (NO.imp (fun _ _ _ _ h => h))
theorem Wd.take {D : Nat} {Ds : List Nat} (h : Wd B H w) (hat : At (defsB (D :: Ds)) (defsB Ds) H H') : (Instr.takeDeferred D).run P w = .ok [] (w.putObj D (.deferred none)) ∧ Wd B H' (w.putObj D (.deferred none)) := by
 have hh := h.ok _ hat.mem
 have hD := hh.1.2 D (by simp)
 have hn := List.nodup_cons.1 hh.1.1
 refine ⟨run_takeDeferred hD, h.chg hat rfl rfl (Chg.putObj (by simp [defsB])) ⟨hn.2, fun C hC => (World.putObj_heap_other (fun (e : C = D) => hn.1 (by rw [← e]; exact hC))).trans (hh.1.2 C (by simp [hC]))⟩ (fun b hb => ⟨.inl (by simp only [defsB] at hb ⊢; simp [hb]), ?_⟩)⟩
 have := (hh.2 b (by simp only [defsB] at hb ⊢; simp [hb])).2
 exact Nat.lt_of_lt_of_le this (grownBy_putObj' w D _).size
theorem JR_marks {fn : Func} {R : Ending → World → Prop} {r : ResultVar} {v : Value} {k : Nat} (HX : It → List It) {Ds : List Nat} (hr : fn.results = #[r]) (h1 : ∀ A, RR P n B l (HX A) r v) (hR : ∀ w, Wd B (HX (defsB [])) w → R (.returned v) w) (hd : B.d = Ds.map mark := by rfl) (hH : Pk (HX (defsB Ds)) H := by repeat constructor) (hat : ∀ A C, At A C (HX A) (HX C) := by intro A C; repeat constructor) :
  JQ n B (bodyPostM Fence.wide k P fn R) .ret l H := by
 intro a w ha hw
 show LeavesInM Fence.wide k P fn a.tmps R B.d .returning w
 rw [hd]
 have hw' := hw.pick hH
 clear hw hH hd
 induction Ds generalizing w with
 | nil =>
  refine ⟨v, ?_, hR w hw'⟩
  have h1 := h1 _ a w ha hw'
  rw [results_rvS, hr]
  simp [h1]
 | cons D Ds ih =>
  obtain ⟨h2, h3⟩ := Wd.take (P := P) hw' (hat _ _)
  exact ⟨by simp, .inl ⟨D, _, rfl, h2, ih _ h3⟩⟩
theorem JR_panicM {fn : Func} {R : Ending → World → Prop} {ch : List PanicEntry} {k : Nat} (hR : ∀ w, Wd B H w → R (.panicked ch) w) (hB : B.d = [] := by rfl) : JQ n B (bodyPostM Fence.wide k P fn R) (.panic ch) l H := fun a w _ hw => by
 show LeavesInM Fence.wide k P fn a.tmps R B.d (.panicking ch) w
 rw [hB]; exact hR w hw
/-! ### A call of yield -/
def JLi (P : Program) (n : Nat) (B : Bs) (ops : Array Oper) (Q : Exit → Act → World → Prop) (rest : List Oper) (l : Sl) (H : List It) : Prop := ∀ a w, Fr n l a → Wd B H w → ∀ m, wpListIn Fence.wide m P ops (NO Q) rest (B.df a) w
variable {ops : Array Oper} {rest : List Oper} {o : Oper}
theorem J_regI {id : Nat} {ls : List Oper} (h : JLi P n B ls.toArray Q ls l H) (hr : B.r = none := by rfl) : J P n B (.region id ls.toArray false) Q l H := fun a w ha hw m => by
 rw [hr]; exact wpIn_region_lit (h a w ha hw m)
theorem iN (h : JQ n B Q .normal l H) : JLi P n B ops Q [] l H := fun a w ha hw _ => h a w ha hw
theorem iV {d : Nat} {v : Value} (hv : RV P n B l H o v) (k : JLi P n B ops Q rest ((d, v) :: l) H) (hnd : isDef o.op = false := by rfl) (hd : o.dst = some d := by rfl) (hW : WN ops n l o true := by exact wAny) (hn : Nat.ble n d = false := by rfl) : JLi P n B ops Q (o :: rest) l H := fun a w ha hw m =>
 wpListIn_step (fun K hK => by
  rw [if_pos (hW.D ha)]
  unfold Oper.wpIn
  refine ⟨fun _ _ => trivial, ?_⟩
  rw [Oper.semAt_plain _ _ _ (fun c hc => by rw [hc] at hnd; cases hnd), show (execOp (B.df a).eval o).run P w = _ from hv a w ha hw]
  show K ((B.df a).put o.dst v) w
  rw [hd]
  exact hK _ _ (by rw [Bs.df_put]; exact k _ _ (ha.put d v hn) hw m))
theorem iKF {d : Nat} {p : Prop} [Decidable p] (hp : ¬ p) (k : JLi P n B ops Q rest ((d, .bool false) :: l) H) : JLi P n B ops Q rest ((d, .bool (decide p)) :: l) H := fun a w ha hw m => k a w (Fr.known (decide_eq_false hp) ha) hw m
theorem iY {T : Type} {φ : T → Prop} {HH : T → List It} {ts : Array TypeId} {x y : Operand} {lp d : Nat} {v : Value} (hY : ∀ W, Wd B H W → ∀ m, YieldAt Fence.wide m P lp #[v] W (fun e W2 => e = .returned (.bool true) ∧ ∃ t', φ t' ∧ Wd B (HH t') W2))
  (k : ∀ t', φ t' → JLi P n B ops Q rest ((d, .bool true) :: l) (HH t')) (ho : o.op = .call { callee := .value x, args := #[y], argTypes := ts } := by rfl) (hx : evl l x = some (.func (.yield lp) #[] #[]) := by rfl) (hy : evl l y = some v := by rfl) (hd : o.dst = some d := by rfl) (hW : WN ops n l o true := by exact wAny) (hn : Nat.ble n d = false := by rfl) :
  JLi P n B ops Q (o :: rest) l H := fun a w ha hw m =>
 wpListIn_step (fun K hK => by
  rw [if_pos (hW.D ha)]
  obtain ⟨fn, tmps, assign, body, h1, h2⟩ := hY w hw (m - 1)
  have he : (execOp (B.df a).eval o).run P w = .ok (.round lp fn tmps assign body) w := by
   unfold execOp; rw [ho]
   simp only [resolve, ha.evD hx, List.map_toArray, List.map_cons, List.map_nil]
   simp [Deferred.ofValue, invoke, ha.evD hy, h1]
  unfold Oper.wpIn
  refine ⟨fun _ _ => trivial, ?_⟩
  rw [Oper.semAt_plain _ _ _ (fun c hc => by rw [ho] at hc; cases hc), he, Oper.uponIn_round]
  refine ⟨fun h => (by cases h), h2.mono ?_⟩
  rintro e W2 ⟨rfl, t', h3, h4⟩
  show K ((B.df a).put o.dst (.bool true)) W2
  rw [hd]
  exact hK _ _ (by rw [Bs.df_put]; exact k t' h3 _ _ (ha.put d _ hn) h4 m))
end
end Go.Proofs.Ytmcpnoailbmkkaa
/- Calls that are put off; recover. Over any program. -/
namespace Go.Proofs.Ytmcpnoailbmkkaa
open Go Go.RowKit Go.Proofs Go.Shelf
attribute [local go_sem] Oper.semAt_some
section
variable {P : Program} {n : Nat} {B : Bs} {Q : Exit → Act → World → Prop} {l : Sl} {H H' : List It} {c : Code} {w w' : World} {ops : Array Oper} {rest : List Oper} {o : Oper} {a : Act}
abbrev later (f : FuncId) (caps : Array Value) : Deferred := { target := .fn (.func f) caps, args := #[] }
/-- A statement 'defer f()'. -/
theorem aDefer {f : FuncId} {caps : Array Value} {g : Operand} {ts : Array TypeId} (k : JL P n ⟨B.w, B.m, B.r, later f caps :: B.d⟩ ops Q rest l H) (ho : o.op = .defer { callee := .value g, args := #[], argTypes := ts } := by rfl) (hg : evl l g = some (.func (.func f) #[] caps) := by rfl) (hd : o.dst = none := by rfl) (hW : WN ops n l o true := by exact wAny) : JL P n B ops Q (o :: rest) l H := fun a w ha hw =>
 wpList_step (fun K hK => by
  rw [if_pos (hW.D ha)]
  unfold Oper.wp
  have hr : (execOp (B.df a).eval o).run P w = .ok (.defer (later f caps)) w := by
   unfold execOp; rw [ho]
   simp only [resolve, ha.evD hg]
   simp [go_sem]
  rw [hr]
  show K (Act.put { B.df a with defers := later f caps :: B.d } o.dst undef) w
  rw [hd]
  exact hK _ _ (k a w ha (hw.re _ _)))
theorem J.wp (h : J P n B c Q l H) (ha : Fr n l a) (hw : Wd B H w) (hr : B.r = none := by rfl) : c.wp P Q (B.df a) w := by
 have h1 := h a w ha hw
 unfold Wp at h1
 rw [hr] at h1
 exact wp_mono (wpIn_wide.1 (h1 0)) (NO.imp (fun _ _ _ _ h => h))
theorem J.wp0 (h : J P n B c Q l H) (ha : Fr n l a) (hw : Wd B H w) (hr : B.r = none := by rfl) (hd : B.d = [] := by rfl) : c.wp P Q a w := by
 have h1 := h.wp ha hw hr
 have e : B.df a = a := by
  have := ha.defers
  cases a; simp only [Bs.df, hd] at this ⊢; rw [this]
 rw [e] at h1
 exact h1
theorem JQ_of {e : Exit} (h : ∀ a w, Fr n l a → Wd B H w → Q e (B.df a) w) : JQ n B Q e l H := h
theorem J_startD {f : FuncId} {fn : Func} {args : Array Value} {w : World} {R : Ending → World → Prop} (hr : B.r = none) (hd : B.d = []) {vs : List Value} {k : Nat} (hf : P.funcs[f]? = some fn) (hb : fn.body = some c) (ha : args = vs.toArray) (hn : fn.ntmps = n) (hk : vs.length + k = n) (hl : en 0 vs = l)
  (hH : Wd B H w) (h : J P n B c (bodyPostD P fn R) l H) : Calls P f args w R := by
 subst ha hl
 refine calls_of_wp_defers hf hb ?_
 have e : fn.ntmps - vs.toArray.size = k := by simp; omega
 rw [e]
 have h1 := h.wp (a := { tmps := vs.toArray ++ Array.replicate k undef, defers := [] }) (by rw [← hk]; exact Fr.start vs k) hH hr
 have e2 : B.df { tmps := vs.toArray ++ Array.replicate k undef, defers := [] } = { tmps := vs.toArray ++ Array.replicate k undef, defers := [] } := by unfold Bs.df; rw [hd]
 rw [e2] at h1
 exact h1
/-- The end of a function with one call that was put off. -/
theorem JR_leave {fn : Func} {R : Ending → World → Prop} {f : FuncId} {caps : Array Value} {r s : ResultVar} {v u : Value} {md : FrameMode} (hcf : ∀ args w, (callFunc f args).run P w = .ok (.enter f args) w) (hm : md ≠ .run) (hcatch : ∀ w, Wd B H w → CallsD P f caps md w (fun e u' w' => e = .returned (.tuple #[]) ∧ settle u' = .returning ∧ Wd B H' w'))
  (hr : fn.results = #[r, s]) (h1 : RR P n B l H' r v) (h2 : RR P n B l H' s u) (hR : ∀ w, Wd B H' w → R (.returned (.tuple #[v, u])) w) (ha : Fr n l a) (hw : Wd B H w) : Leaves P fn a.tmps R [later f caps] md w := by
 refine leaves_cons (f := f) (args := caps) hm (by simp [invoke, hcf]) ((hcatch w hw).mono ?_)
 rintro e u' w' ⟨rfl, hs, hw'⟩
 show Leaves P fn a.tmps R [] (settle u') w'
 rw [hs]
 refine ⟨.tuple #[v, u], ?_, hR w' hw'⟩
 have h1 := h1 a w' ha hw'
 have h2 := h2 a w' ha hw'
 rw [results_rvS, hr]
 simp [h1, h2]
/-- Two items as one. -/
def unI (A C : It) : It where
 foot b := A.foot b ∨ C.foot b
 holds w := A.holds w ∧ C.holds w ∧ ∀ b, A.foot b → C.foot b → False
 st w w' h h1 := ⟨A.st w w' (fun b hb => h b (.inl hb)) h1.1, C.st w w' (fun b hb => h b (.inr hb)) h1.2.1, h1.2.2⟩
theorem Wd.unite {A C : It} (h : Wd B (A :: C :: H) w) (hA : A.ro = false) (hC : C.ro = false) : Wd B (unI A C :: H) w := by
 have hs := List.pairwise_cons.1 h.sep
 have hs2 := List.pairwise_cons.1 hs.2
 have o1 := h.ok A (by simp)
 have o2 := h.ok C (by simp)
 have hd := sepR.out (hs.1 C (by simp)) hA
 have f1 : ∀ b, A.foot b → (B.m b ∨ B.w.heap.size ≤ b) ∧ b < w.heap.size := fun b hb => ⟨((o1.2 b hb).1).resolve_left (by rw [hA]; simp), (o1.2 b hb).2⟩
 have f2 : ∀ b, C.foot b → (B.m b ∨ B.w.heap.size ≤ b) ∧ b < w.heap.size := fun b hb => ⟨((o2.2 b hb).1).resolve_left (by rw [hC]; simp), (o2.2 b hb).2⟩
 refine ⟨h.os, h.tape, h.output, h.size, h.block, fun D hD => ?_, List.pairwise_cons.2 ⟨fun D hD => .inr (fun b h1 h2 => ?_), hs2.2⟩⟩
 ·rcases List.mem_cons.1 hD with rfl | hD
  ·exact ⟨⟨o1.1, o2.1, hd⟩, fun b hb => hb.elim (fun h => ⟨.inr (f1 b h).1, (f1 b h).2⟩) (fun h => ⟨.inr (f2 b h).1, (f2 b h).2⟩)⟩
  ·exact h.ok D (by simp [hD])
 ·rcases h1 with h1 | h1
  ·exact sepR.out (hs.1 D (by simp [hD])) hA b h1 h2
  ·exact sepR.out (hs2.1 D hD) hC b h1 h2
theorem Wd.split {A C : It} (h : Wd B (unI A C :: H) w) : Wd B (A :: C :: H) w := by
 have hs := List.pairwise_cons.1 h.sep
 have o := h.ok (unI A C) (by simp)
 have hf : ∀ b, A.foot b ∨ C.foot b → (False ∨ B.m b ∨ B.w.heap.size ≤ b) ∧ b < w.heap.size := fun b hb => by
  have := o.2 b hb
  exact ⟨this.1.imp_left (fun h => by cases h), this.2⟩
 have hd : ∀ D ∈ H, ∀ b, A.foot b ∨ C.foot b → D.foot b → False := fun D hD => sepR.out (hs.1 D hD) rfl
 refine ⟨h.os, h.tape, h.output, h.size, h.block, fun D hD => ?_, List.pairwise_cons.2 ⟨fun D hD => .inr (fun b h1 h2 => ?_), List.pairwise_cons.2 ⟨fun D hD => .inr (fun b h1 h2 => hd D hD b (.inr h1) h2), hs.2⟩⟩⟩
 ·rcases List.mem_cons.1 hD with rfl | hD
  ·exact ⟨o.1.1, fun b hb => ⟨(hf b (.inl hb)).1.imp_left (fun h => h.elim), (hf b (.inl hb)).2⟩⟩
  ·rcases List.mem_cons.1 hD with rfl | hD
   ·exact ⟨o.1.2.1, fun b hb => ⟨(hf b (.inr hb)).1.imp_left (fun h => h.elim), (hf b (.inr hb)).2⟩⟩
   ·exact h.ok D (by simp [hD])
 ·rcases List.mem_cons.1 hD with rfl | hD
  ·exact o.1.2.2 b h1 h2
  ·exact hd D hD b (.inl h1) h2
theorem Wd.keepO {A C : It} {H0 : List It} {w0 : World} (hw : Wd B H w0) (hW : Wd ⟨w0, A.foot, none, []⟩ H0 w) (hk : Pk [C, A] H) (hr : C.ro = false) : C.holds w ∧ ∀ b, C.foot b → ¬ A.foot b := by
 have h2 := hw.pick hk
 have hs := sepR.out ((List.pairwise_cons.1 h2.sep).1 A (by simp)) hr
 have o := h2.ok C (by simp)
 exact ⟨C.st w0 w (fun b hb => hW.block b (o.2 b hb).2 (fun h => hs b hb h)) o.1, fun b hb h => hs b hb h⟩
theorem Wd.belM {A : It} {H0 : List It} {w0 w1 : World} (hw : Wd (bs w0) H w1) (hA : A ∈ H) (hAr : A.ro = false) (hW : Wd ⟨w1, A.foot, none, []⟩ H0 w) : Below w0.heap.size w0 w := by
 have hb := hw.bel
 refine ⟨hW.os.trans hb.os, hW.tape.trans hb.tape, hW.output.trans hb.output, Nat.le_trans hb.size hW.size, fun b h => (hW.block b (Nat.lt_of_lt_of_le h hb.size) (fun hf => ?_)).trans (hb.block b h)⟩
 rcases ((hw.ok A hA).2 b hf).1 with h1 | h1 | h1
 ·rw [hAr] at h1; cases h1
 ·exact h1.elim
 ·exact absurd h (Nat.not_lt.2 h1)
theorem Rm.pk {A : It} {H1 : List It} (h : Rm A H H1) : ∀ {w : World}, Wd B H w → Wd B (A :: H1) w := by
 intro w hw
 obtain ⟨h1, h2⟩ := h.sep (R := sepR) sepR_symm hw.sep
 exact ⟨hw.os, hw.tape, hw.output, hw.size, hw.block, fun C hC => hw.ok C (by rcases List.mem_cons.1 hC with rfl | hC; exact h.mem; exact h.sub C hC), List.pairwise_cons.2 ⟨h2, h1⟩⟩
theorem JL_split {A C : It} {H1 : List It} (h : JL P n B ops Q rest l (A :: C :: H1)) (hr : Rm (unI A C) H H1 := by repeat constructor) : JL P n B ops Q rest l H := fun a w ha hw => h a w ha (hr.pk hw).split
theorem J_split {A C : It} {H1 : List It} (h : J P n B c Q l (A :: C :: H1)) (hr : Rm (unI A C) H H1 := by repeat constructor) : J P n B c Q l H := fun a w ha hw => h a w ha (hr.pk hw).split
theorem wpS_seq_k {x y : Code} {K : Act → List Frame → World → Prop} {Q : Exit → Act → List Frame → World → Prop} {cs : List Frame} (h1 : x.wpS P (Exit.thenS K (fun _ _ _ _ => False)) a cs w) (h2 : ∀ a cs w, K a cs w → y.wpS P Q a cs w) : (x.seq y).wpS P Q a cs w := by
 refine wpS_seq (fun b k hb hr => ?_)
 obtain ⟨e, a', cs', w', hq, harr⟩ := h1 b k hb hr
 cases e with
 | normal => exact ⟨.normal, a', cs', w', h2 _ _ _ hq, harr⟩
 | _ => exact hq.elim
end
end Go.Proofs.Ytmcpnoailbmkkaa
/- The walk by live slots: appends of whole slices of rows that the function owns. Over any program. -/
namespace Go.Proofs.Ytmcpnoailbmkkaa
open Go Go.RowKit Go.Proofs
section
variable {P : Program} {n : Nat} {B : Bs} {Q : Exit → Act → World → Prop} {ops : Array Oper} {rest : List Oper} {l : Sl} {H : List It} {o : Oper}
theorem Arr.takeC {α : Type} {k : Nat} {enc : α → List Value} {A : Option Addr} {n c m : Nat} {w : World} {l : List α} (h : Arr k enc w (.slice A n c) l) (hm : m ≤ l.length) : Arr k enc w (.slice A m c) (l.take m) := by
 obtain ⟨A', cap, e, h2, h3, h4⟩ := h
 injection e with e1 e2 e3
 subst e1 e2 e3
 have hl : (l.take m).length = m := by rw [List.length_take]; omega
 refine ⟨A, c, by rw [hl], by omega, ⟨by omega, h3.2⟩, fun hn => ?_⟩
 obtain ⟨b, o, e, hh⟩ := h4 (by intro e; subst e; simp at hn)
 refine ⟨b, o, e, fun j hj i hi => ?_⟩
 rw [List.getElem_take]
 exact hh j (by omega) i hi
theorem Arr.drop {α : Type} {k : Nat} {enc : α → List Value} {A : Option Addr} {n c m : Nat} {w : World} {l : List α} (h : Arr k enc w (.slice A n c) l) (hm : m ≤ l.length) : Arr k enc w (.slice (if c = m then A else A.map (·.add (m * k))) (n - m) (c - m)) (l.drop m) := by
 obtain ⟨A', cap, e, h2, h3, h4⟩ := h
 injection e with e1 e2 e3
 subst e1 e2 e3
 refine ⟨_, c - m, by rw [List.length_drop], by rw [List.length_drop]; omega, ⟨by rw [List.length_drop]; omega, by omega⟩, fun hn => ?_⟩
 have hl : m < l.length := by
  rcases Nat.lt_or_ge m l.length with h | h
  ·exact h
  ·exact absurd (List.drop_eq_nil_of_le h) hn
 obtain ⟨b, o, rfl, hh⟩ := h4 (by intro e; subst e; simp at hl)
 refine ⟨b, o + m * k, by rw [if_neg (by omega)]; show some (Addr.add _ _) = _; rw [Addr.add_mid], fun j hj i hi => ?_⟩
 rw [List.length_drop] at hj
 have := hh (m + j) (by omega) i hi
 rw [List.getElem_drop, ← this, Nat.add_mul, ← Nat.add_assoc]
/-- What is known of a row of our own: its form. -/
theorem own_cn {ty k m c : Nat} {A : Option Addr} {xs : List Value} (hw : ∃ w, Wd B H w) (hm : ownB ty k A m c xs ∈ H) : (m ≤ c ∧ c ≤ maxLen) ∧ (A = none → c = 0) := by
 refine ⟨own_cap hw hm, ?_⟩
 obtain ⟨w, hw⟩ := hw
 have h1 : w.ownsRow 0 ty k (.slice A m c) m xs := (hw.ok _ hm).1
 rcases h1.2 with ⟨e, h0⟩ | ⟨g, cap, cur, hv, -⟩
 ·injection e with e1 e2 e3; exact fun _ => e3
 ·injection hv with e1 e2 e3; intro e; rw [e] at e1; cases e1
theorem own_arr {α : Type} {k : Nat} {enc : α → List Value} (E : Enc k enc) {w : World} {ty c : Nat} {A : Option Addr} {L : List α} (hw : Wd B H w) (hm : ownB ty k A L.length c (L.flatMap enc) ∈ H) (hl : L.length ≤ 9223372036854775807) : Arr k enc w (.slice A L.length c) L := Arr.of_own E (hw.ok _ hm).1 hl
theorem run_append0' {P : Program} {w : World} (sl e ty : TypeId) (A : Option Addr) (m c c' sz : Nat) (ht : P.underlying sl = some (.slice e)) (hs : ∀ w, (sizeOf e).run P w = .ok sz w) (hmc : m ≤ c) : (Builtin.append_ #[sl, sl] ty #[.slice A m c, .slice none 0 c']).run P w = .ok (.slice A m c) w := by
 cases A <;> simp [Builtin.append_, run_underlying ht, hs, Builtin.lenOf, Builtin.firstCells, storeCells, hmc, Sem.run_bind]
theorem ow_appY {α : Type} {k : Nat} {enc : α → List Value} (E : Enc k enc) (hk : 0 < k) {sl e : TypeId} {z : Value} {bytes d : Nat} {x y : Operand} {A Y : Option Addr} {c m c' : Nat} {L M : List α} {G : Option Addr → Nat → List It}
  (ht : P.underlying sl = some (.slice e)) (hinf : (P.info? e).map (fun i => (i.zero, i.size, i.bytes)) = some (some z, k, bytes)) (hzs : z.cells.size = k) (hby : bytes ≤ 128) (hs : ∀ w, (sizeOf e).run P w = .ok k w)
  (ho : o.op = .call { callee := .builtin .append, args := #[x, y], argTypes := #[sl, sl] }) (hd : o.dst = some d) (hn : Nat.ble n d = false) (hx : evl l x = some (.slice A L.length c)) (hy : evl l y = some (.slice Y m c')) (hm : m = M.length) (hLc : L.length ≤ c)
  (hnews : ∀ w, Wd B H w → Arr k enc w (.slice Y m c') M) (hl : L.length + M.length ≤ 1000000)
  (hat : ∀ A' c', At (ownB e k A L.length c (L.flatMap enc)) (ownB e k A' (L ++ M).length c' ((L ++ M).flatMap enc)) H (G A' c')) : OpS P n B (some (ownB e k A L.length c (L.flatMap enc))) l H o (fun A' c' => (d, .slice A' (L ++ M).length c') :: l) G := by
 cases Y with
 | some a => exact ow_appX E hk ht hinf hzs hby hs ho hd hn hx hy hm (fun h => (by cases h)) hLc hnews hl hat
 | none =>
  refine OpW.of_run (T := Option Addr × Nat) (φ := fun _ => True) (G := fun t => G t.1 t.2) hd hn (V := fun t => .slice t.1 (L ++ M).length t.2) (fun a1 w ha hw => ?_)
  have hM : M = [] := by
   obtain ⟨A', cap, e, -, -, h4⟩ := hnews w hw
   injection e with e1
   cases M with
   | nil => rfl
   | cons u M =>
    obtain ⟨b, q, e2, -⟩ := h4 (by simp)
    rw [← e1] at e2; cases e2
  subst hM
  have hat' := hat A c
  rw [List.append_nil] at hat'
  refine ⟨(A, c), w, trivial, ?_, ?_, ⟨rfl, rfl, rfl, Nat.le_refl _, fun _ _ _ => rfl⟩⟩
  ·subst hm
   rw [List.append_nil]
   exact run_append_op ho (ha.ev hx) (ha.ev hy) (run_append0' sl e o.type A L.length c c' k ht hs hLc)
  ·rw [← hat'.same]; exact hw
/-- An append of a whole slice. -/
theorem oAppX {α : Type} {k : Nat} {enc : α → List Value} (E : Enc k enc) {sl e : TypeId} {z : Value} {bytes d : Nat} {x y : Operand} {A Y : Option Addr} {c m c' : Nat} (L M : List α) {G : Option Addr → Nat → List It} [u : Und P sl (.slice e)] [i : Inf P e z k bytes] [s : Siz P e k]
  (hnews : ∀ w, Wd B H w → Arr k enc w (.slice Y m c') M) (hm : m = M.length) (hLc : L.length ≤ c) (ho : o.op = .call { callee := .builtin .append, args := #[x, y], argTypes := #[sl, sl] } := by rfl) (hk : 0 < k := by decide) (hzs : z.cells.size = k := by rfl) (hby : bytes ≤ 128 := by decide) (hd : o.dst = some d := by rfl) (hn : Nat.ble n d = false := by rfl)
  (hx : evl l x = some (.slice A L.length c) := by rfl) (hy : evl l y = some (.slice Y m c') := by rfl) (hl : L.length + M.length ≤ 1000000 := by omega)
  (hat : ∀ A' c', At (ownB e k A L.length c (L.flatMap enc)) (ownB e k A' (L ++ M).length c' ((L ++ M).flatMap enc)) H (G A' c') := by intro A c; repeat constructor) : OpS P n B (some (ownB e k A L.length c (L.flatMap enc))) l H o (fun A' c' => (d, .slice A' (L ++ M).length c') :: l) G :=
 ow_appY E hk u.h i.h hzs hby s.h ho hd hn hx hy hm hLc hnews hl hat
theorem ec_valE {f : FuncId} {g : Operand} {fs cs args : Array Value} {xs : List Operand} {ts : Array TypeId} {vs : List Value} (ho : o.op = .call { callee := .value g, args := xs.toArray, argTypes := ts }) (hg : evl l g = some (.func (.func f) fs cs)) (hx : evs l xs = some vs) (hf : ∀ args w, (callFunc f args).run P w = .ok (.enter f args) w) (he : (fs ++ vs.toArray ++ cs).toList = args.toList) : EC P n l o f args := by
 have : fs ++ vs.toArray ++ cs = args := Array.toList_inj.1 he
 rw [← this]
 exact ec_val ho hg hx hf
/-- An item that the function made, read alone. -/
def roN (N : Nat) (A : It) : It where
 ro := true
 foot := A.foot
 holds w := A.holds w ∧ ∀ b, A.foot b → N ≤ b
 st w w' h hA := ⟨A.st w w' h hA.1, hA.2⟩
theorem Wd.roN {w : World} {H' : List It} {A : It} {N : Nat} (h : Wd B H w) (ha : At A (Go.Proofs.Ytmcpnoailbmkkaa.roN N A) H H') (hm : ∀ b, ¬ B.m b) (hN : N ≤ B.w.heap.size) (hr : A.ro = false) : Wd B H' w := h.turn ha (fun _ => rfl) ⟨(h.ok A ha.mem).1, fun b hb => by
 rcases ((h.ok A ha.mem).2 b hb).1 with h1 | h1 | h1
 ·rw [hr] at h1; cases h1
 ·exact absurd h1 (hm b)
 ·exact Nat.le_trans hN h1⟩ (fun _ h => h)
theorem Wd.unRo {w : World} {A : It} {N : Nat} (h : Wd B (Go.Proofs.Ytmcpnoailbmkkaa.roN N A :: H) w) (hN : B.w.heap.size ≤ N) (hH : (H.all fun C => !C.ro) = true) : Wd B (A :: H) w := by
 have hA := h.ok _ List.mem_cons_self
 have hs := List.pairwise_cons.1 h.sep
 refine ⟨h.os, h.tape, h.output, h.size, h.block, fun C hC => ?_, List.pairwise_cons.2 ⟨fun C hC => .inr ?_, hs.2⟩⟩
 ·rcases List.mem_cons.1 hC with rfl | hC
  ·exact ⟨hA.1.1, fun b hb => ⟨.inr (.inr (Nat.le_trans hN (hA.1.2 b hb))), (hA.2 b hb).2⟩⟩
  ·exact h.ok C (List.mem_cons_of_mem _ hC)
 ·rcases hs.1 C hC with ⟨-, h2⟩ | h2
  ·have := List.all_eq_true.1 hH C hC
   rw [h2] at this; cases this
  ·exact h2
theorem J_roN {c : Code} {H' : List It} (N : Nat) (A : It) (h : J P n B c Q l H') (ha : At A (roN N A) H H' := by repeat constructor) (hm : ∀ b, ¬ B.m b := by exact fun _ h => h) (hN : N ≤ B.w.heap.size := by exact Nat.le_refl _) (hr : A.ro = false := by rfl) : J P n B c Q l H := fun a w h1 h2 => h a w h1 (h2.roN ha hm hN hr)
theorem J_dup {c : Code} {H1 : List It} (C : It) (h : J P n B c Q l (C :: H)) (rm : Rm C H H1 := by repeat constructor) (hr : C.ro = true := by rfl) : J P n B c Q l H := fun a w h1 h2 => h a w h1 (h2.addRo rm hr hr (h2.ok C rm.mem).1 (fun _ h => h))
theorem JQ_roN {e : Exit} {H' : List It} (N : Nat) (A : It) (h : JQ n B Q e l H') (ha : At A (roN N A) H H' := by repeat constructor) (hm : ∀ b, ¬ B.m b := by exact fun _ h => h) (hN : N ≤ B.w.heap.size := by exact Nat.le_refl _) (hr : A.ro = false := by rfl) : JQ n B Q e l H := fun a w h1 h2 => h a w h1 (h2.roN ha hm hN hr)
theorem ron_arr {α : Type} {k : Nat} {enc : α → List Value} (E : Enc k enc) {w : World} {N ty c : Nat} {A : Option Addr} {L : List α} (hw : Wd B H w) (hm : roN N (ownB ty k A L.length c (L.flatMap enc)) ∈ H) (hl : L.length ≤ 9223372036854775807) : Arr k enc w (.slice A L.length c) L := Arr.of_own E (hw.ok _ hm).1.1 hl
end
section
variable {P : Program} {n : Nat} {B : Bs} {Q : Exit → Act → World → Prop} {ops : Array Oper} {l : Sl} {H : List It} {ld lx : List Nat} {H0 Hx : List It} {fuel : Nat} {listed : Array Bool} {ord : List Nat}
theorem dPair {i j : Nat} (hr : Region.ready .any ops listed = [i, j]) (h1 : St1 P n B ops Q ld H0 lx Hx fuel listed l H i) (h2 : St1 P n B ops Q ld H0 lx Hx fuel listed l H j) : JD ord P n B ops Q ld H0 lx Hx (fuel + 1) listed l H := JA_pair hr h1 h2
theorem dThree {i j k : Nat} (hr : Region.ready .any ops listed = [i, j, k]) (h1 : St1 P n B ops Q ld H0 lx Hx fuel listed l H i) (h2 : St1 P n B ops Q ld H0 lx Hx fuel listed l H j) (h3 : St1 P n B ops Q ld H0 lx Hx fuel listed l H k) : JD ord P n B ops Q ld H0 lx Hx (fuel + 1) listed l H := JA_three hr h1 h2 h3
end
section
variable {P : Program} {n : Nat} {B : Bs} {Q : Exit → Act → World → Prop} {l : Sl} {H : List It} {c : Code}
/-- Labels that only breaks and continues name. -/
theorem J_scope (h : J P n B c (Exit.noGoto Q) l H) (hr : B.r = none := by rfl) : J P n B (.scope c) Q l H := fun a w ha hw m => by
 have h1 := h a w ha hw m
 rw [hr] at h1 ⊢
 exact wpIn_wide.2 (wp_scope_straight (wp_mono (wpIn_wide.1 h1) (fun e a w hq => by cases e <;> exact hq)))
theorem JQ_ngN (h : JQ n B Q .normal l H) : JQ n B (Exit.noGoto Q) .normal l H := fun a w ha hw => h a w ha hw
theorem JQ_ngR (h : JQ n B Q .ret l H) : JQ n B (Exit.noGoto Q) .ret l H := fun a w ha hw => h a w ha hw
theorem JQ_ngP {ch : List PanicEntry} (h : JQ n B Q (.panic ch) l H) : JQ n B (Exit.noGoto Q) (.panic ch) l H := fun a w ha hw => h a w ha hw
end
end Go.Proofs.Ytmcpnoailbmkkaa
/- Layers 2 and 7, in plain Lean: stones, positions, codes, throws. (Carried over from the texts of wip/rules by wip/tools/plain.py.) -/
namespace Go.Proofs.Ytmcpnoailbmkkaa
open Go Go.RowKit Go.Proofs
def ab (x : Int) : Int := if x < 0 then -x else x
theorem ab_nn (x : Int) : 0 ≤ ab x := by unfold ab; split <;> omega
theorem ab_neg (x : Int) : ab (-x) = ab x := by unfold ab; split <;> split <;> omega
theorem ab_sq (x : Int) : ab x * ab x = x * x := by
  unfold ab; split
  · rw [Int.neg_mul_neg]
  · rfl
theorem sq_bound {x B : Int} (h : ab x ≤ B) : 0 ≤ x * x ∧ x * x ≤ B * B := by
  rw [← ab_sq]
  have h0 := ab_nn x
  exact ⟨Int.mul_nonneg h0 h0, Int.mul_le_mul h h h0 (by omega)⟩
/-- A place is valid; a stone there is in play. -/
def OkS (x y : Int) : Prop := (-6553600000 ≤ x ∧ x ≤ 6553600000) ∧ -6553600000 ≤ y ∧ y ≤ 6553600000
def Play (x y : Int) : Prop := ab x + 9502720 < 155648000 ∧ -419495936 < y - 9502720 ∧ y - 9502720 ≤ 119865344
instance (x y : Int) : Decidable (OkS x y) := by unfold OkS; infer_instance
instance (x y : Int) : Decidable (Play x y) := by unfold Play; infer_instance
def sqd (x y : Int) : Int := x * x + y * y
def zoneZ (x y : Int) : Int := if Play x y then (if sqd x y ≤ 16736095983108096 then 2 else if y + 9502720 < 0 then 1 else 3) else 0
def InH (x y : Int) : Prop := Play x y ∧ sqd x y ≤ 16736095983108096
instance (x y : Int) : Decidable (InH x y) := by unfold InH; infer_instance
theorem zone_house (x y : Int) : zoneZ x y = 2 ↔ InH x y := by
  unfold zoneZ InH
  constructor
  · intro h; split at h
    · rename_i h1; split at h
      · exact ⟨h1, by assumption⟩
      · split at h <;> omega
    · omega
  · rintro ⟨h1, h2⟩; rw [if_pos h1, if_pos h2]
theorem zone_away (x y : Int) : zoneZ x y = 0 ↔ ¬ Play x y := by
  unfold zoneZ
  constructor
  · intro h h1; rw [if_pos h1] at h; split at h
    · omega
    · split at h <;> omega
  · intro h; rw [if_neg h]
theorem play_bound {x y : Int} (h : Play x y) : ab x ≤ 146145280 ∧ ab y ≤ 409993216 := by
  unfold Play ab at *; split at h <;> split <;> omega
theorem sqd_bound {x y : Int} (h : Play x y) : (0 ≤ x * x ∧ x * x ≤ 21358442866278400) ∧ 0 ≤ y * y ∧ y * y ≤ 168094437166022656 := by
  obtain ⟨h1, h2⟩ := play_bound h
  exact ⟨sq_bound (B := 146145280) h1, sq_bound (B := 409993216) h2⟩
/-- How stones that lie dx, dy apart touch: -1 they overlap, 0 they touch, 1 neither. -/
def touZ (dx dy : Int) : Int := if 19005440 < ab dx ∨ 19005440 < ab dy then 1 else if sqd dx dy < 361206749593600 then -1 else if 361206749593600 < sqd dx dy then 1 else 0
theorem touZ_comm (a b c d : Int) : touZ (a - c) (b - d) = touZ (c - a) (d - b) := by
  have e1 : ab (a - c) = ab (c - a) := by rw [← ab_neg]; congr 1; omega
  have e2 : ab (b - d) = ab (d - b) := by rw [← ab_neg]; congr 1; omega
  have e3 : sqd (a - c) (b - d) = sqd (c - a) (d - b) := by unfold sqd; rw [← ab_sq, ← ab_sq (b - d), e1, e2, ab_sq, ab_sq]
  unfold touZ; rw [e1, e2, e3]
/-- A stone. -/
structure St where
  t : Int
  n : Int
  x : Int
  y : Int
def ovB (a b : St) : Bool := decide (OkS a.x a.y ∧ OkS b.x b.y ∧ touZ (a.x - b.x) (a.y - b.y) = -1)
/-- The first place at which p holds, or -1. -/
def fidx {α : Type} (p : α → Bool) (l : List α) : Int := if l.findIdx p < l.length then (l.findIdx p : Int) else -1
theorem fidx_at {α : Type} {p : α → Bool} {l : List α} {k : Nat} (h : k < l.length) (h1 : p (l[k]'h) = true) (h2 : ∀ j (hj : j < k), p (l[j]'(by omega)) = false) : fidx p l = k := by
  have e : l.findIdx p = k := (List.findIdx_eq h).2 ⟨h1, h2⟩
  unfold fidx; rw [e, if_pos h]
theorem fidx_none {α : Type} {p : α → Bool} {l : List α} (h : ∀ j (hj : j < l.length), p (l[j]'hj) = false) : fidx p l = -1 := by
  have : l.findIdx p = l.length := by
    rw [List.findIdx_eq_length]
    intro x hx
    obtain ⟨j, hj, rfl⟩ := List.getElem_of_mem hx
    exact h j hj
  unfold fidx; rw [this, if_neg (by omega)]
/-- The first pair, from place i on. -/
def pairF {α : Type} (h : α → α → Bool) : List α → Nat → Int × Int
  | [], _ => (-1, -1)
  | a :: l, i => if 0 ≤ fidx (h a) l then ((i : Int), (i : Int) + 1 + fidx (h a) l) else pairF h l (i + 1)
theorem pairF_step {α : Type} {h : α → α → Bool} {l : List α} {k : Nat} (hk : k < l.length) :
    pairF h (l.drop k) k = if 0 ≤ fidx (h (l[k]'hk)) (l.drop (k + 1)) then ((k : Int), (k : Int) + 1 + fidx (h (l[k]'hk)) (l.drop (k + 1))) else pairF h (l.drop (k + 1)) (k + 1) := by
  rw [List.drop_eq_getElem_cons hk]; rfl
def isB (t n : Int) (s : St) : Bool := s.t == t && s.n == n
theorem touZ_neg (x y : Int) : touZ x y < 0 ↔ touZ x y = -1 := by
  unfold touZ; split
  · omega
  · split
    · omega
    · split <;> omega
theorem pairF_at {α : Type} {h : α → α → Bool} {l : List α} {i k : Nat} (hi : i < k) (hk : k < l.length) (h1 : h (l[i]'(by omega)) (l[k]'hk) = true)
    (h2 : ∀ j (hj : j < l.length), i < j → j < k → h (l[i]'(by omega)) (l[j]'hj) = false) : pairF h (l.drop i) i = ((i : Int), (k : Int)) := by
  have hl : (l.drop (i + 1)).length = l.length - (i + 1) := List.length_drop
  have e : fidx (h (l[i]'(by omega))) (l.drop (i + 1)) = ((k - (i + 1) : Nat) : Int) := by
    refine fidx_at (by omega) ?_ ?_
    · rw [List.getElem_drop]
      have e : i + 1 + (k - (i + 1)) = k := by omega
      simp only [e]; exact h1
    · intro j hj
      rw [List.getElem_drop]
      exact h2 (i + 1 + j) (by omega) (by omega) (by omega)
  rw [pairF_step (by omega), e, if_pos (by omega)]
  congr 1
  omega
theorem pairF_pass {α : Type} {h : α → α → Bool} {l : List α} {i : Nat} (hi : i < l.length) (h2 : ∀ j (hj : j < l.length), i < j → h (l[i]'hi) (l[j]'hj) = false) : pairF h (l.drop i) i = pairF h (l.drop (i + 1)) (i + 1) := by
  have hl : (l.drop (i + 1)).length = l.length - (i + 1) := List.length_drop
  have e : fidx (h (l[i]'hi)) (l.drop (i + 1)) = -1 := by
    refine fidx_none fun j hj => ?_
    rw [List.getElem_drop]
    exact h2 (i + 1 + j) (by omega) (by omega)
  rw [pairF_step hi, e, if_neg (by omega)]
def nameB (a b : St) : Bool := a.t == b.t && a.n == b.n
def okSt (s : St) : Prop := ((0 ≤ s.t ∧ s.t ≤ 1) ∧ 0 ≤ s.n ∧ s.n ≤ 7) ∧ OkS s.x s.y ∧ Play s.x s.y
instance (s : St) : Decidable (okSt s) := by unfold okSt; infer_instance
/-- Stones are valid, with names that no earlier one has. -/
def goodF : List St → List St → Bool
  | _, [] => true
  | pre, s :: r => decide (okSt s) && pre.all (fun a => !nameB a s) && goodF (pre ++ [s]) r
def chkB (l : List St) : Bool := decide (l.length ≤ 16) && goodF [] l && decide ((pairF ovB l 0).1 < 0)
theorem goodF_step {l : List St} {k : Nat} (hk : k < l.length) :
    goodF (l.take k) (l.drop k) = (decide (okSt (l[k]'hk)) && (l.take k).all (fun a => !nameB a (l[k]'hk)) && goodF (l.take (k + 1)) (l.drop (k + 1))) := by
  rw [List.drop_eq_getElem_cons hk, List.take_succ_eq_append_getElem hk]; rfl
theorem all_take {l : List St} {k : Nat} {s : St} (hk : k ≤ l.length) (h : ∀ j (hj : j < l.length), j < k → nameB (l[j]'hj) s = false) : (l.take k).all (fun a => !nameB a s) = true := by
  rw [List.all_eq_true]
  intro a ha
  obtain ⟨j, hj, rfl⟩ := List.getElem_of_mem ha
  rw [List.getElem_take]
  have hj2 : j < k := by rw [List.length_take] at hj; omega
  rw [h j (by omega) hj2]; rfl
theorem not_all_take {l : List St} {k j : Nat} {s : St} (hk : k ≤ l.length) (hj : j < k) (h : nameB (l[j]'(by omega)) s = true) : (l.take k).all (fun a => !nameB a s) = false := by
  rw [← Bool.not_eq_true, List.all_eq_true]
  intro ha
  have hj2 : j < (l.take k).length := by rw [List.length_take]; omega
  have := ha ((l.take k)[j]'hj2) (List.getElem_mem hj2)
  rw [List.getElem_take, h] at this
  cases this
/-- The names of stones, the last one first. -/
def namesR (l : List St) : List (Int × Int) := (l.map fun s => (s.t, s.n)).reverse
theorem namesR_snoc (l : List St) (s : St) : namesR (l ++ [s]) = (s.t, s.n) :: namesR l := by simp [namesR]
theorem namesR_len (l : List St) : (namesR l).length = l.length := by simp [namesR]
theorem names_all (l : List St) (s : St) : l.all (fun a => !nameB a s) = !decide ((s.t, s.n) ∈ namesR l) := by
  rw [Bool.eq_iff_iff]
  simp only [List.all_eq_true, Bool.not_eq_true', decide_eq_false_iff_not, namesR, List.mem_reverse, List.mem_map, not_exists, not_and]
  constructor
  · intro h a ha e
    have := h a ha
    injection e with e1 e2
    simp [nameB, e1, e2] at this
  · intro h a ha
    have := h a ha
    cases hn : nameB a s
    · rfl
    · exfalso
      simp only [nameB, Bool.and_eq_true, beq_iff_eq] at hn
      exact this (by rw [hn.1, hn.2])
theorem good_all {l : List St} : ∀ {k : Nat}, k ≤ l.length → goodF (l.take k) (l.drop k) = true → ∀ j (h : j < l.length), k ≤ j → okSt (l[j]'h) := by
  intro k hk
  induction hn : l.length - k generalizing k with
  | zero => intro _ j h1 h2; omega
  | succ n ih =>
    intro hg j h1 h2
    rw [goodF_step (by omega), Bool.and_eq_true, Bool.and_eq_true] at hg
    by_cases e : j = k
    · subst e; exact of_decide_eq_true hg.1.1
    · exact ih (k := k + 1) (by omega) (by omega) hg.2 j h1 (by omega)
theorem chk_facts {l : List St} (h : chkB l = true) : l.length ≤ 16 ∧ ∀ j (h : j < l.length), okSt (l[j]'h) := by
  unfold chkB at h
  rw [Bool.and_eq_true, Bool.and_eq_true] at h
  exact ⟨of_decide_eq_true h.1.1, fun j hj => good_all (k := 0) (Nat.zero_le _) (by simpa using h.1.2) j hj (Nat.zero_le _)⟩
/-- A code. -/
structure Cd where
  f : Int
  t : Int
  s : Int
  e : Int
  p : Bool
def okN (n : Int) : Bool := decide (0 ≤ n ∧ n ≤ 16)
def ccB (c : Cd) : Bool := okN c.f && okN c.t && okN c.s && decide (1 ≤ c.e ∧ c.e ≤ 8) && (!c.p || decide (c.e ≤ 7))
def zn (x y : Int) : Int := if OkS x y then zoneZ x y else 0
def cen (s : St) : Bool := decide (OkS s.x s.y) && decide (Play s.x s.y ∧ ab s.x ≤ 9502720)
def guB (team : Int) (s : St) : Bool := s.t != team && zn s.x s.y == 1
def kpB (c : Cd) (n team : Int) (s : St) : Bool := decide (n < c.s) || (decide (n < c.f) && guB team s)
def fxB (c : Cd) (n team : Int) (s : St) : Bool := decide (n < c.t) && guB team s && cen s
def eqS (a b : St) : Bool := a.t == b.t && (a.n == b.n && (a.x == b.x && a.y == b.y))
/-- A stone's name, compared. -/
def eqK (x y x' y' : Int) : Bool := x == x' && y == y'
theorem eqS_iff (a b : St) : eqS a b = true ↔ a = b := by
  obtain ⟨a1, a2, a3, a4⟩ := a
  obtain ⟨b1, b2, b3, b4⟩ := b
  simp [eqS]
/-- Two lists are alike. -/
def eqL : List St → List St → Bool
  | [], [] => true
  | a :: l, b :: m => eqS a b && eqL l m
  | _, _ => false
theorem eqL_iff : ∀ (l m : List St), eqL l m = true ↔ l = m
  | [], [] => by simp [eqL]
  | a :: l, b :: m => by simp [eqL, eqS_iff, eqL_iff l m]
  | [], b :: m => by simp [eqL]
  | a :: l, [] => by simp [eqL]
theorem eqL_no {l m : List St} (h : l ≠ m) : eqL l m = false := by
  cases e : eqL l m
  · rfl
  · exact absurd ((eqL_iff l m).1 e) h
theorem eqK_iff (x y x' y' : Int) : eqK x y x' y' = true ↔ x = x' ∧ y = y' := by simp [eqK]
/-- The stone of a name. -/
def lookT (l : List St) (t n : Int) : Option St := l.foldl (fun r s => if eqK s.t s.n t n = true then some s else r) none
theorem lookT_snoc (l : List St) (s : St) (t n : Int) : lookT (l ++ [s]) t n = if eqK s.t s.n t n = true then some s else lookT l t n := by
  unfold lookT; rw [List.foldl_append]; rfl
theorem lookT_some {l : List St} {t n : Int} : (lookT l t n).isSome = l.any (fun s => eqK s.t s.n t n) := by
  have H : ∀ (l : List St) (r : Option St), (l.foldl (fun r s => if eqK s.t s.n t n = true then some s else r) r).isSome = (r.isSome || l.any (fun s => eqK s.t s.n t n)) := by
    intro l
    induction l with
    | nil => intro r; simp
    | cons s l ih =>
      intro r
      rw [List.foldl_cons, ih, List.any_cons]
      cases h : eqK s.t s.n t n <;> simp
  have := H l none
  simpa [lookT] using this
theorem ok64 {s : St} (h : okSt s) : W64 s.t ∧ W64 s.n := by
  unfold okSt at h
  unfold W64
  omega
def bnd (s : St) : Prop := (0 ≤ s.t ∧ s.t ≤ 1) ∧ 0 ≤ s.n ∧ s.n ≤ 7
def kyS (s : St) : Int := s.t * 8 + s.n
/-- A throw, but where the stones came to rest. -/
structure Th where
  team : Int
  n : Int
  late : Bool
  short : Bool
  how : Int
/-- A protected stone is gone. -/
def remB (c : Cd) (n team : Int) (m l : List St) : Bool := l.any (fun s => !(lookT m s.t s.n).isSome && kpB c n team s)
/-- A fixed stone has left the centre line. -/
def movB (c : Cd) (n team : Int) (m l : List St) : Bool := l.any (fun s => (lookT m s.t s.n).isSome && fxB c n team s && !cen ((lookT m s.t s.n).getD ⟨0, 0, 0, 0⟩))
theorem any_snoc (f : St → Bool) (l : List St) (s : St) : (l ++ [s]).any f = (l.any f || f s) := by simp
theorem remB_step (c : Cd) (n team : Int) (m : List St) {l : List St} {k : Nat} (h : k < l.length) : remB c n team m (l.take (k + 1)) = (remB c n team m (l.take k) || (!(lookT m (l[k]'h).t (l[k]'h).n).isSome && kpB c n team (l[k]'h))) := by
  unfold remB; rw [List.take_succ_eq_append_getElem h, any_snoc]
theorem movB_step (c : Cd) (n team : Int) (m : List St) {l : List St} {k : Nat} (h : k < l.length) : movB c n team m (l.take (k + 1)) = (movB c n team m (l.take k) || ((lookT m (l[k]'h).t (l[k]'h).n).isSome && fxB c n team (l[k]'h) && !cen ((lookT m (l[k]'h).t (l[k]'h).n).getD ⟨0, 0, 0, 0⟩))) := by
  unfold movB; rw [List.take_succ_eq_append_getElem h, any_snoc]
/-- The stones, sorted by their names. -/
def srt (l : List St) : List St := l.mergeSort (fun a b => decide (kyS a ≤ kyS b))
theorem srt_perm (l : List St) : (srt l).Perm l := List.mergeSort_perm _ _
theorem srt_pw (l : List St) : (srt l).Pairwise (fun a b => kyS a ≤ kyS b) := by
  have h := List.pairwise_mergeSort (le := fun a b => decide (kyS a ≤ kyS b)) (fun a b c h1 h2 => by simp only [decide_eq_true_eq] at *; omega) (fun a b => by simp only [Bool.or_eq_true, decide_eq_true_eq]; omega) l
  exact h.imp (fun h => by simpa using h)
/-- No two stones of a list have a name in common. -/
def dis (l : List St) : Prop := ∀ a ∈ l, ∀ b ∈ l, a.t = b.t → a.n = b.n → a = b
theorem srt_uniq {l l' : List St} (hb : ∀ s ∈ l, bnd s) (hd : dis l) (hp : l'.Perm l) (hs : l'.Pairwise (fun a b => kyS a ≤ kyS b)) : l' = srt l := by
  refine List.Perm.eq_of_pairwise (le := fun a b => kyS a ≤ kyS b) ?_ hs (srt_pw l) (hp.trans (srt_perm l).symm)
  intro a b ha hb' h1 h2
  have ha' := hp.mem_iff.1 ha
  have hb2 := (srt_perm l).mem_iff.1 hb'
  have k1 := hb a ha'
  have k2 := hb b hb2
  unfold bnd at k1 k2
  unfold kyS at h1 h2
  exact hd a ha' b hb2 (by omega) (by omega)
theorem good_names {l : List St} : ∀ {k : Nat}, k ≤ l.length → goodF (l.take k) (l.drop k) = true → ∀ j (hj : j < l.length), k ≤ j → ∀ i (hi : i < j), nameB (l[i]'(by omega)) (l[j]'hj) = false := by
  intro k hk h j hj hkj
  induction hd : l.length - k generalizing k with
  | zero => omega
  | succ n ih =>
    have hlt : k < l.length := by omega
    rw [goodF_step hlt, Bool.and_eq_true, Bool.and_eq_true] at h
    by_cases e : j = k
    · subst e
      intro i hi
      have h2 := List.all_eq_true.1 h.1.2 (l[i]'(by omega)) (by rw [List.mem_take_iff_getElem]; exact ⟨i, by omega, rfl⟩)
      simpa using h2
    · exact ih (k := k + 1) (by omega) h.2 (by omega) (by omega)
theorem chk_dis {l : List St} (h : chkB l = true) : dis l := by
  unfold chkB at h
  rw [Bool.and_eq_true, Bool.and_eq_true] at h
  have hn := good_names (l := l) (k := 0) (by omega) h.1.2
  intro a ha b hb e1 e2
  obtain ⟨i, hi, rfl⟩ := List.getElem_of_mem ha
  obtain ⟨j, hj, rfl⟩ := List.getElem_of_mem hb
  rcases Nat.lt_trichotomy i j with h3 | h3 | h3
  · have := hn j hj (by omega) i h3
    simp [nameB, e1, e2] at this
  · subst h3; rfl
  · have := hn i hi (by omega) j h3
    simp [nameB, e1, e2] at this
theorem chk_bnd {l : List St} (h : chkB l = true) : ∀ s ∈ l, bnd s := by
  intro s hs
  obtain ⟨j, hj, rfl⟩ := List.getElem_of_mem hs
  have := (chk_facts h).2 j hj
  unfold okSt at this
  exact this.1
theorem srt_len (l : List St) : (srt l).length = l.length := (srt_perm l).length_eq
/-- A throw's parts are valid. -/
def thrA (l m : List St) (x : Th) : Bool := chkB l && chkB m && decide (0 ≤ x.team ∧ x.team ≤ 1) && decide (0 ≤ x.n ∧ x.n ≤ 7) && decide (0 ≤ x.how ∧ x.how ≤ 4)
/-- A throw is valid. -/
def thrB (l m : List St) (x : Th) : Bool :=
  thrA l m x && !(lookT l x.team x.n).isSome && m.all (fun s => (lookT l s.t s.n).isSome || eqK s.t s.n x.team x.n) && (!x.short || eqL (srt l) (srt m))
/-- The stones with the first q names, in order. -/
def srtQ (l : List St) (q : Nat) : List St := (List.range q).filterMap (fun i => l.find? (isB ((i / 8 : Nat) : Int) ((i % 8 : Nat) : Int)))
theorem srtQ_step (l : List St) (q : Nat) : srtQ l (q + 1) = srtQ l q ++ (l.find? (isB ((q / 8 : Nat) : Int) ((q % 8 : Nat) : Int))).toList := by
  unfold srtQ
  rw [List.range_succ, List.filterMap_append]
  simp only [List.filterMap_cons, List.filterMap_nil]
  cases h : l.find? (isB ((q / 8 : Nat) : Int) ((q % 8 : Nat) : Int)) <;> rfl
theorem srtQ_len (l : List St) (q : Nat) : (srtQ l q).length ≤ q := by
  unfold srtQ; exact Nat.le_trans (List.length_filterMap_le _ _) (by simp)
theorem find_yes {p : St → Bool} {l : List St} {i : Nat} (h : i < l.length) (hp : p (l[i]'h) = true) (hb : ∀ j (hj : j < i), p (l[j]'(by omega)) = false) : l.find? p = some (l[i]'h) := by
  rw [List.find?_eq_some_iff_getElem]
  exact ⟨hp, i, h, rfl, fun j hj => by rw [hb j hj]; rfl⟩
theorem find_no {p : St → Bool} {l : List St} (h : ∀ s ∈ l, p s = false) : l.find? p = none := by
  rw [List.find?_eq_none]; intro s hs; rw [h s hs]; simp
theorem isB_iff (t n : Int) (s : St) : isB t n s = true ↔ s.t = t ∧ s.n = n := by unfold isB; simp
theorem srtQ_mem {l : List St} (hb : ∀ s ∈ l, bnd s) (hd : dis l) (s : St) : s ∈ srtQ l 16 ↔ s ∈ l := by
  unfold srtQ
  rw [List.mem_filterMap]
  constructor
  · rintro ⟨i, -, h⟩
    exact List.mem_of_find?_eq_some h
  · intro hs
    have h1 := hb s hs
    unfold bnd at h1
    refine ⟨(s.t * 8 + s.n).toNat, List.mem_range.2 (by omega), ?_⟩
    have e1 : (((s.t * 8 + s.n).toNat / 8 : Nat) : Int) = s.t := by omega
    have e2 : (((s.t * 8 + s.n).toNat % 8 : Nat) : Int) = s.n := by omega
    rw [e1, e2]
    cases h : l.find? (isB s.t s.n) with
    | none =>
      rw [List.find?_eq_none] at h
      exact absurd ((isB_iff _ _ _).2 ⟨rfl, rfl⟩) (h s hs)
    | some s' =>
      have h2 := List.mem_of_find?_eq_some h
      have h3 := (isB_iff _ _ _).1 (List.find?_some h)
      rw [hd s' h2 s hs h3.1 h3.2]
theorem srtQ_pw (l : List St) : ∀ q, (srtQ l q).Pairwise (fun a b => kyS a < kyS b) ∧ ∀ s ∈ srtQ l q, kyS s < q := by
  intro q
  induction q with
  | zero => simp [srtQ]
  | succ q ih =>
    rw [srtQ_step]
    cases h : l.find? (isB ((q / 8 : Nat) : Int) ((q % 8 : Nat) : Int)) with
    | none => simp only [Option.toList_none, List.append_nil]; exact ⟨ih.1, fun s hs => by have := ih.2 s hs; omega⟩
    | some s' =>
      have h3 := (isB_iff _ _ _).1 (List.find?_some h)
      have hk : kyS s' = q := by unfold kyS; omega
      simp only [Option.toList_some]
      refine ⟨?_, ?_⟩
      · rw [List.pairwise_append]
        exact ⟨ih.1, List.pairwise_singleton _ _, fun a ha b hb => by rw [List.mem_singleton.1 hb, hk]; exact ih.2 a ha⟩
      · intro s hs
        rcases List.mem_append.1 hs with h | h
        · have := ih.2 s h; omega
        · rw [List.mem_singleton.1 h, hk]; omega
theorem strict_ext : ∀ (l m : List St), l.Pairwise (fun a b => kyS a < kyS b) → m.Pairwise (fun a b => kyS a < kyS b) → (∀ x, x ∈ l ↔ x ∈ m) → l = m
  | [], [], _, _, _ => rfl
  | [], b :: m, _, _, h => absurd ((h b).2 (List.mem_cons_self ..)) (List.not_mem_nil)
  | a :: l, [], _, _, h => absurd ((h a).1 (List.mem_cons_self ..)) (List.not_mem_nil)
  | a :: l, b :: m, hl, hm, h => by
    rw [List.pairwise_cons] at hl hm
    have e : a = b := by
      rcases List.mem_cons.1 ((h a).1 (List.mem_cons_self ..)) with h1 | h1
      · exact h1
      · rcases List.mem_cons.1 ((h b).2 (List.mem_cons_self ..)) with h2 | h2
        · exact h2.symm
        · have := hl.1 b h2; have := hm.1 a h1; omega
    subst e
    rw [strict_ext l m hl.2 hm.2 (fun x => ?_)]
    constructor
    · intro hx
      rcases List.mem_cons.1 ((h x).1 (List.mem_cons_of_mem _ hx)) with h1 | h1
      · have := hl.1 x hx; rw [h1] at this; omega
      · exact h1
    · intro hx
      rcases List.mem_cons.1 ((h x).2 (List.mem_cons_of_mem _ hx)) with h1 | h1
      · have := hm.1 x hx; rw [h1] at this; omega
      · exact h1
theorem srt_strict {l : List St} (hb : ∀ s ∈ l, bnd s) (hn : l.Pairwise (fun a b => ¬ (a.t = b.t ∧ a.n = b.n))) : (srt l).Pairwise (fun a b => kyS a < kyS b) := by
  have hn' : (srt l).Pairwise (fun a b => ¬ (a.t = b.t ∧ a.n = b.n)) := (srt_perm l).symm.pairwise hn (fun {a b} h h' => h ⟨h'.1.symm, h'.2.symm⟩)
  refine ((srt_pw l).and hn').imp_of_mem ?_
  intro a b ha hb' h
  have k1 := hb a ((srt_perm l).mem_iff.1 ha)
  have k2 := hb b ((srt_perm l).mem_iff.1 hb')
  unfold bnd at k1 k2
  have h1 := h.1
  have h2 := h.2
  unfold kyS at h1 ⊢
  by_cases e : a.t * 8 + a.n = b.t * 8 + b.n
  · exact absurd ⟨by omega, by omega⟩ h2
  · omega
theorem srtQ_srt {l : List St} (hb : ∀ s ∈ l, bnd s) (hd : dis l) (hn : l.Pairwise (fun a b => ¬ (a.t = b.t ∧ a.n = b.n))) : srtQ l 16 = srt l :=
  strict_ext _ _ (srtQ_pw l 16).1 (srt_strict hb hn) (fun x => (srtQ_mem hb hd x).trans (srt_perm l).mem_iff.symm)
theorem chk_pw {l : List St} (h : chkB l = true) : l.Pairwise (fun a b => ¬ (a.t = b.t ∧ a.n = b.n)) := by
  unfold chkB at h
  rw [Bool.and_eq_true, Bool.and_eq_true] at h
  have hn := good_names (l := l) (k := 0) (by omega) h.1.2
  rw [List.pairwise_iff_getElem]
  rintro i j hi hj hij ⟨e1, e2⟩
  have := hn j hj (by omega) i hij
  simp [nameB, e1, e2] at this

end Go.Proofs.Ytmcpnoailbmkkaa
/- Layer 2: places. (By names: any seat.) -/
namespace Go.Proofs.Ytmcpnoailbmkkaa
open Go Go.RowKit Go.Proofs
attribute [local irreducible] J JQ JL JA JD

theorem pNeg {P : Program} {n : Nat} {l : Sl} {o : Oper} {t : TypeId} {x : Operand} {a : Int} (ho : o.op = .unOp .neg t x) (hx : evl l x = some (.int .i64 a)) (ha : -9223372036854775807 ≤ a ∧ a ≤ 9223372036854775807) : RP P n l o (.int .i64 (-a)) := rp1 hx (fun ρ h1 w => by
 have h2 : IntKind.i64.wrap (-a) = -a := wrap64 (by omega)
 unfold execOp
 simp only [ho, h1]
 go_simp)
abbrev Sp (x y : Int) : Value := .agg #[.int .i64 x, .int .i64 y]
theorem ok_dec {p : Prop} [Decidable p] {b : Bool} (h : b = true ↔ p) : b = decide p := by
 rw [Bool.eq_iff_iff, h, decide_eq_true_iff]
theorem sqd_ok {x y : Int} (h : ab x ≤ 146145280 ∧ ab y ≤ 409993216) : (0 ≤ x * x ∧ x * x ≤ 21358442866278400) ∧ 0 ≤ y * y ∧ y * y ≤ 168094437166022656 :=
 ⟨sq_bound h.1, sq_bound h.2⟩
theorem ab_le {x B : Int} : ab x ≤ B ↔ -B ≤ x ∧ x ≤ B := by unfold ab; split <;> omega
theorem ab_max (x : Int) : max x (-x) = ab x := by unfold ab; split <;> omega
set_option maxRecDepth 100000 in
set_option maxHeartbeats 4000000 in
theorem rwithin (n a b : Int) (w : World) : Calls Try.prog 29 #[.int .i64 n, .int .i64 a, .int .i64 b] w (Back (.bool (decide (a ≤ n ∧ n ≤ b))) w) := by
 refine J_enter (fun _ => False) (vs := [.int .i64 n, .int .i64 a, .int .i64 b]) (k := 12) (l := [(0, .int .i64 n), (1, .int .i64 a), (2, .int .i64 b)]) Try.func29 rfl rfl Try.ntmps29 rfl rfl (Wd.start _) ?_
 refine s10 ?_
 refine JL_dec (fun h9 => ?_) (fun h9 => ?_)
 ·refine s4 ?_
  refine JL_dec (fun h13 => ?_) (fun h13 => ?_)
  ·refine s5 ?_
   refine JR_one rfl (rr_tmp rfl) ?_
   intro w' hw
   exact ⟨by congr 2; exact (by first | exact (decide_eq_true (by omega)).symm | exact (decide_eq_false (by omega)).symm), hw.bel⟩
  ·refine s5 ?_
   refine JR_one rfl (rr_tmp rfl) ?_
   intro w' hw
   exact ⟨by congr 2; exact (by first | exact (decide_eq_true (by omega)).symm | exact (decide_eq_false (by omega)).symm), hw.bel⟩
 ·refine s9 ?_
  refine JR_one rfl (rr_tmp rfl) ?_
  intro w' hw
  exact ⟨by congr 2; exact (by first | exact (decide_eq_true (by omega)).symm | exact (decide_eq_false (by omega)).symm), hw.bel⟩
set_option maxRecDepth 100000 in
set_option maxHeartbeats 4000000 in
theorem swithin (n a b : Int) (w : World) : Calls Try.prog 38 #[.int .i64 n, .int .i64 a, .int .i64 b] w (Back (.bool (decide (a ≤ n ∧ n ≤ b))) w) := by
 refine J_enter (fun _ => False) (vs := [.int .i64 n, .int .i64 a, .int .i64 b]) (k := 12) (l := [(0, .int .i64 n), (1, .int .i64 a), (2, .int .i64 b)]) Try.func38 rfl rfl Try.ntmps38 rfl rfl (Wd.start _) ?_
 refine s10 ?_
 refine JL_dec (fun h9 => ?_) (fun h9 => ?_)
 ·refine s4 ?_
  refine JL_dec (fun h13 => ?_) (fun h13 => ?_)
  ·refine s5 ?_
   refine JR_one rfl (rr_tmp rfl) ?_
   intro w' hw
   exact ⟨by congr 2; exact (by first | exact (decide_eq_true (by omega)).symm | exact (decide_eq_false (by omega)).symm), hw.bel⟩
  ·refine s5 ?_
   refine JR_one rfl (rr_tmp rfl) ?_
   intro w' hw
   exact ⟨by congr 2; exact (by first | exact (decide_eq_true (by omega)).symm | exact (decide_eq_false (by omega)).symm), hw.bel⟩
 ·refine s9 ?_
  refine JR_one rfl (rr_tmp rfl) ?_
  intro w' hw
  exact ⟨by congr 2; exact (by first | exact (decide_eq_true (by omega)).symm | exact (decide_eq_false (by omega)).symm), hw.bel⟩
set_option maxRecDepth 100000 in
set_option maxHeartbeats 4000000 in
theorem swithinF (n a b : Int) (w : World) : Calls Try.prog 43 #[.int .i64 n, .int .i64 a, .int .i64 b] w (Back (.bool (decide (a ≤ n ∧ n ≤ b))) w) := by
 refine J_enter (fun _ => False) (vs := [.int .i64 n, .int .i64 a, .int .i64 b]) (k := 12) (l := [(0, .int .i64 n), (1, .int .i64 a), (2, .int .i64 b)]) Try.func43 rfl rfl Try.ntmps43 rfl rfl (Wd.start _) ?_
 refine s10 ?_
 refine JL_dec (fun h9 => ?_) (fun h9 => ?_)
 ·refine s4 ?_
  refine JL_dec (fun h13 => ?_) (fun h13 => ?_)
  ·refine s5 ?_
   refine JR_one rfl (rr_tmp rfl) ?_
   intro w' hw
   exact ⟨by congr 2; exact (by first | exact (decide_eq_true (by omega)).symm | exact (decide_eq_false (by omega)).symm), hw.bel⟩
  ·refine s5 ?_
   refine JR_one rfl (rr_tmp rfl) ?_
   intro w' hw
   exact ⟨by congr 2; exact (by first | exact (decide_eq_true (by omega)).symm | exact (decide_eq_false (by omega)).symm), hw.bel⟩
 ·refine s9 ?_
  refine JR_one rfl (rr_tmp rfl) ?_
  intro w' hw
  exact ⟨by congr 2; exact (by first | exact (decide_eq_true (by omega)).symm | exact (decide_eq_false (by omega)).symm), hw.bel⟩
set_option maxRecDepth 100000 in
set_option maxHeartbeats 4000000 in
theorem CheckSpot_any (x y : Int) (w : World) : Calls Try.prog 26 #[Sp x y] w (Back (.bool (decide (OkS x y))) w) := by
 refine J_enter (fun _ => False) (vs := [.agg #[.int .i64 x, .int .i64 y]]) (k := 10) (l := [(0, .agg #[.int .i64 x, .int .i64 y])]) Try.func26 rfl rfl Try.ntmps26 rfl rfl (Wd.start _) ?_
 refine s2 ?_
 refine aW (oX [_, _]) (fun b1 hb1 => ?_)
 refine s7 ?_
 refine aCB (fun w hw => swithinF _ _ _ w) ?_
 refine JL_dec (fun h5 => ?_) (fun h5 => ?_)
 ·refine s3 ?_
  refine aCB (fun w hw => swithinF _ _ _ w) ?_
  refine JL_dec (fun h9 => ?_) (fun h9 => ?_)
  ·refine s5 ?_
   refine JR_one rfl (rr_tmp rfl) ?_
   intro w' hw
   exact ⟨by congr 2; exact (by first | exact (decide_eq_true (by unfold OkS; omega)).symm | exact (decide_eq_false (by unfold OkS; omega)).symm), hw.bel⟩
  ·refine s5 ?_
   refine JR_one rfl (rr_tmp rfl) ?_
   intro w' hw
   exact ⟨by congr 2; exact (by first | exact (decide_eq_true (by unfold OkS; omega)).symm | exact (decide_eq_false (by unfold OkS; omega)).symm), hw.bel⟩
 ·refine s9 ?_
  refine JR_one rfl (rr_tmp rfl) ?_
  intro w' hw
  exact ⟨by congr 2; exact (by first | exact (decide_eq_true (by unfold OkS; omega)).symm | exact (decide_eq_false (by unfold OkS; omega)).symm), hw.bel⟩
set_option maxRecDepth 100000 in
set_option maxHeartbeats 4000000 in
theorem size_any (x : Int) (hx : -9223372036854775807 ≤ x ∧ x ≤ 9223372036854775807) (w : World) : Calls Try.prog 44 #[.int .i64 x] w (Back (.int .i64 (ab x)) w) := by
 refine J_enter (fun _ => False) (vs := [.int .i64 x]) (k := 6) (l := [(0, .int .i64 x)]) Try.func44 rfl rfl Try.ntmps44 rfl rfl (Wd.start _) ?_
 refine s9 ?_
 refine aP (pNeg rfl rfl hx) ?_
 refine s5 ?_
 refine JR_one rfl (rr_tmp rfl) ?_
 intro w' hw
 exact ⟨by rw [ab_max], hw.bel⟩
set_option maxRecDepth 100000 in
set_option maxHeartbeats 4000000 in
theorem square_any (x y : Int) (h : ab x ≤ 146145280 ∧ ab y ≤ 409993216) (w : World) : Calls Try.prog 25 #[Sp x y] w (Back (.int .i64 (sqd x y)) w) := by
 obtain ⟨⟨hx0, hx1⟩, hy0, hy1⟩ := sqd_ok h
 refine J_enter (fun _ => False) (vs := [.agg #[.int .i64 x, .int .i64 y]]) (k := 13) (l := [(0, .agg #[.int .i64 x, .int .i64 y])]) Try.func25 rfl rfl Try.ntmps25 rfl rfl (Wd.start _) ?_
 refine s2 ?_
 refine aW (oX [_, _]) (fun b1 hb1 => ?_)
 refine s9 ?_
 refine aP (pMul rfl rfl rfl) ?_
 refine s4 ?_
 refine aP (pMul rfl rfl rfl) ?_
 refine aP (pAdd rfl rfl rfl) ?_
 refine s4 ?_
 refine JR_one rfl (rr_tmp rfl) ?_
 intro w' hw
 exact ⟨rfl, hw.bel⟩
set_option maxRecDepth 100000 in
set_option maxHeartbeats 4000000 in
theorem zone_any (x y : Int) (hk : OkS x y) (w : World) : Calls Try.prog 27 #[Sp x y] w (Back (.int .i64 (zoneZ x y)) w) := by
 have hk0 := hk
 unfold OkS at hk0
 have hab := ab_nn x
 have hab2 : ab x ≤ 6553600000 := ab_le.2 (by omega)
 refine J_enter (fun _ => False) (vs := [.agg #[.int .i64 x, .int .i64 y]]) (k := 25) (l := [(0, .agg #[.int .i64 x, .int .i64 y])]) Try.func27 rfl rfl Try.ntmps27 rfl rfl (Wd.start _) ?_
 refine s2 ?_
 refine aW (oX [_, _]) (fun b1 hb1 => ?_)
 refine s10 ?_
 refine aCB (fun w hw => size_any x (by omega) w) ?_
 refine s2 ?_
 refine JL_dec (fun h8 => ?_) (fun h8 => ?_)
 ·refine s8 ?_
  refine kJ [] ?_
  refine s7 ?_
  refine JR_one rfl (rr_tmp rfl) ?_
  intro w' hw
  have e : zoneZ x y = 0 := by unfold zoneZ; rw [if_neg (by unfold Play; omega)]
  rw [e]; exact ⟨rfl, hw.bel⟩
 ·refine s5 ?_
  refine kJ [(1, _)] ?_
  refine s5 ?_
  refine JL_dec (fun h12 => ?_) (fun h12 => ?_)
  ·refine s8 ?_
   refine kJ [] ?_
   refine s7 ?_
   refine JR_one rfl (rr_tmp rfl) ?_
   intro w' hw
   have e : zoneZ x y = 0 := by unfold zoneZ; rw [if_neg (by unfold Play; omega)]
   rw [e]; exact ⟨rfl, hw.bel⟩
  ·refine s4 ?_
   refine kJ [(1, _)] ?_
   refine s5 ?_
   refine JL_dec (fun h16 => ?_) (fun h16 => ?_)
   ·refine s5 ?_
    refine kJ [] ?_
    refine s7 ?_
    refine JR_one rfl (rr_tmp rfl) ?_
    intro w' hw
    have e : zoneZ x y = 0 := by unfold zoneZ; rw [if_neg (by unfold Play; omega)]
    rw [e]; exact ⟨rfl, hw.bel⟩
   ·refine s5 ?_
    have hpl : Play x y := by unfold Play; omega
    refine kJ [(1, _)] ?_
    refine s2 ?_
    refine aCB (fun w hw => square_any x y (play_bound hpl) w) ?_
    refine s1 ?_
    refine JL_dec (fun h20 => ?_) (fun h20 => ?_)
    ·refine s5 ?_
     refine kJ [] ?_
     refine s7 ?_
     refine JR_one rfl (rr_tmp rfl) ?_
     intro w' hw
     have e : zoneZ x y = 2 := by unfold zoneZ; rw [if_pos hpl, if_pos h20]
     rw [e]; exact ⟨rfl, hw.bel⟩
    ·refine s5 ?_
     refine kJ [(1, _)] ?_
     refine s5 ?_
     refine JL_dec (fun h25 => ?_) (fun h25 => ?_)
     ·refine s5 ?_
      refine kJ [] ?_
      refine s7 ?_
      refine JR_one rfl (rr_tmp rfl) ?_
      intro w' hw
      have e : zoneZ x y = 1 := by unfold zoneZ; rw [if_pos hpl, if_neg h20, if_pos h25]
      rw [e]; exact ⟨rfl, hw.bel⟩
     ·refine s8 ?_
      refine kJ [] ?_
      refine s5 ?_
      refine JR_one rfl (rr_tmp rfl) ?_
      intro w' hw
      have e : zoneZ x y = 3 := by unfold zoneZ; rw [if_pos hpl, if_neg h20, if_neg h25]
      rw [e]; exact ⟨rfl, hw.bel⟩
end Go.Proofs.Ytmcpnoailbmkkaa
/- Layers 2, 7: zones, codes, what is protected. -/
namespace Go.Proofs.Ytmcpnoailbmkkaa
open Go Go.RowKit Go.Proofs
attribute [local irreducible] J JQ JL JA JD

def zoneR (x y : Int) : Value := if OkS x y then .tuple #[.int .i64 (zoneZ x y), .int .i64 0] else .tuple #[.int .i64 0, .int .i64 2]
def onR (x y : Int) : Value := if OkS x y then .tuple #[.bool (decide (Play x y ∧ ab x ≤ 9502720)), .int .i64 0] else .tuple #[.bool false, .int .i64 2]
theorem zoneR_zn (x y : Int) : ∃ k : Int, zoneR x y = .tuple #[.int .i64 (zn x y), .int .i64 k] := by
 unfold zoneR zn
 by_cases h : OkS x y
 ·exact ⟨0, by rw [if_pos h, if_pos h]⟩
 ·exact ⟨2, by rw [if_neg h, if_neg h]⟩
theorem onR_cen (s : St) : ∃ k : Int, onR s.x s.y = .tuple #[.bool (cen s), .int .i64 k] := by
 unfold onR cen
 by_cases h : OkS s.x s.y
 ·exact ⟨0, by rw [if_pos h, decide_eq_true h]; rfl⟩
 ·exact ⟨2, by rw [if_neg h, decide_eq_false h]; rfl⟩
def eT (s : St) : List Value := [.int .i64 s.t, .int .i64 s.n, .int .i64 s.x, .int .i64 s.y]
theorem ET : Enc 4 eT := ⟨fun _ => rfl, fun x v h => by simp [eT] at h; rcases h with rfl | rfl | rfl | rfl <;> rfl⟩
abbrev Stv (s : St) : Value := .agg #[.int .i64 s.t, .int .i64 s.n, .int .i64 s.x, .int .i64 s.y]
abbrev Cdv (c : Cd) : Value := .agg #[.int .i64 c.f, .int .i64 c.t, .int .i64 c.s, .int .i64 c.e, .bool c.p]
abbrev Tnv (c : Cd) (n team : Int) : Value := .agg #[.int .i64 c.f, .int .i64 c.t, .int .i64 c.s, .int .i64 c.e, .bool c.p, .int .i64 n, .int .i64 team]
set_option maxRecDepth 100000 in
set_option maxHeartbeats 4000000 in
theorem Zone_any (x y : Int) (w : World) : Calls Try.prog 12 #[Sp x y] w (Back (zoneR x y) w) := by
 refine J_enter (fun _ => False) (vs := [.agg #[.int .i64 x, .int .i64 y]]) (k := 8) (l := [(0, .agg #[.int .i64 x, .int .i64 y])]) Try.func12 rfl rfl Try.ntmps12 rfl rfl (Wd.start _) ?_
 refine s2 ?_
 refine aW (oX [_, _]) (fun b1 hb1 => ?_)
 refine s6 ?_
 by_cases hk : OkS x y
 ·have hk0 := hk
  unfold OkS at hk0
  refine s2 ?_
  refine aCB (fun w hw => CheckSpot_any x y w) ?_
  refine aDecT ?_ hk
  refine s7 ?_
  refine kJ [(1, _)] ?_
  refine s2 ?_
  refine aCB (fun w hw => zone_any x y hk w) ?_
  refine s5 ?_
  refine JR_two rfl (rr_tmp rfl) (rr_tmp rfl) ?_
  intro w' hw
  exact ⟨by unfold zoneR; rw [if_pos hk], hw.bel⟩
 ·refine s2 ?_
  refine aCB (fun w hw => CheckSpot_any x y w) ?_
  refine aDecF ?_ hk
  refine s5 ?_
  refine kJ [] ?_
  refine s7 ?_
  refine JR_two rfl (rr_tmp rfl) (rr_tmp rfl) ?_
  intro w' hw
  exact ⟨by unfold zoneR; rw [if_neg hk], hw.bel⟩
set_option maxRecDepth 100000 in
set_option maxHeartbeats 4000000 in
theorem OnCentre_any (x y : Int) (w : World) : Calls Try.prog 91 #[Sp x y] w (Back (onR x y) w) := by
 refine J_enter (fun _ => False) (vs := [.agg #[.int .i64 x, .int .i64 y]]) (k := 15) (l := [(0, .agg #[.int .i64 x, .int .i64 y])]) Try.func91 rfl rfl Try.ntmps91 rfl rfl (Wd.start _) ?_
 refine s2 ?_
 refine aW (oX [_, _]) (fun b1 hb1 => ?_)
 refine s6 ?_
 by_cases hk : OkS x y
 ·have hk0 := hk
  unfold OkS at hk0
  refine s2 ?_
  refine aCB (fun w hw => CheckSpot_any x y w) ?_
  refine aDecT ?_ hk
  refine s7 ?_
  refine kJ [(1, _)] ?_
  refine s2 ?_
  refine aCB (fun w hw => zone_any x y hk w) ?_
  refine s1 ?_
  refine JL_dec (fun h9 => ?_) (fun h9 => ?_)
  ·refine s3 ?_
   refine aCB (fun w hw => size_any x (by unfold OkS at hk; omega) w) ?_
   refine s1 ?_
   refine JL_dec (fun h14 => ?_) (fun h14 => ?_)
   ·refine s6 ?_
    refine JR_two rfl (rr_tmp rfl) (rr_tmp rfl) ?_
    intro w' hw
    have e : decide (Play x y ∧ ab x ≤ 9502720) = true := decide_eq_true ⟨(Decidable.not_not.1 (fun h => h9 ((zone_away x y).2 h))), h14⟩
    exact ⟨by unfold onR; rw [if_pos hk, e], hw.bel⟩
   ·refine s6 ?_
    refine JR_two rfl (rr_tmp rfl) (rr_tmp rfl) ?_
    intro w' hw
    have e : decide (Play x y ∧ ab x ≤ 9502720) = false := decide_eq_false (fun h => h14 h.2)
    exact ⟨by unfold onR; rw [if_pos hk, e], hw.bel⟩
  ·refine s11 ?_
   refine JR_two rfl (rr_tmp rfl) (rr_tmp rfl) ?_
   intro w' hw
   have e : decide (Play x y ∧ ab x ≤ 9502720) = false := decide_eq_false (fun h => h9 (fun h0 => (zone_away x y).1 h0 h.1))
   exact ⟨by unfold onR; rw [if_pos hk, e], hw.bel⟩
 ·refine s2 ?_
  refine aCB (fun w hw => CheckSpot_any x y w) ?_
  refine aDecF ?_ hk
  refine s5 ?_
  refine kJ [] ?_
  refine s7 ?_
  refine JR_two rfl (rr_tmp rfl) (rr_tmp rfl) ?_
  intro w' hw
  exact ⟨by unfold onR; rw [if_neg hk], hw.bel⟩
theorem ccB_iff {c : Cd} : ccB c = true ↔ (0 ≤ c.f ∧ c.f ≤ 16) ∧ (0 ≤ c.t ∧ c.t ≤ 16) ∧ (0 ≤ c.s ∧ c.s ≤ 16) ∧ (1 ≤ c.e ∧ c.e ≤ 8) ∧ (c.p = true → c.e ≤ 7) := by
 unfold ccB okN
 obtain ⟨f, t, s, e, p⟩ := c
 cases p <;> simp [and_assoc]
theorem cc_yes {c : Cd} (h : (0 ≤ c.f ∧ c.f ≤ 16) ∧ (0 ≤ c.t ∧ c.t ≤ 16) ∧ (0 ≤ c.s ∧ c.s ≤ 16) ∧ (1 ≤ c.e ∧ c.e ≤ 8) ∧ (c.p = true → c.e ≤ 7)) : true = ccB c := (ccB_iff.2 h).symm
theorem cc_no {c : Cd} (h : ¬ ((0 ≤ c.f ∧ c.f ≤ 16) ∧ (0 ≤ c.t ∧ c.t ≤ 16) ∧ (0 ≤ c.s ∧ c.s ≤ 16) ∧ (1 ≤ c.e ∧ c.e ≤ 8) ∧ (c.p = true → c.e ≤ 7))) : false = ccB c := (Bool.eq_false_iff.2 (fun h' => h (ccB_iff.1 h'))).symm
set_option maxRecDepth 100000 in
set_option maxHeartbeats 4000000 in
theorem central_any (s : St) (w : World) : Calls Try.prog 66 #[Stv s] w (Back (.bool (cen s)) w) := by
 obtain ⟨st_, sn, sx, sy⟩ := s
 obtain ⟨k0, hc0⟩ := onR_cen ⟨st_, sn, sx, sy⟩
 refine J_enter (fun _ => False) (vs := [.agg #[.int .i64 st_, .int .i64 sn, .int .i64 sx, .int .i64 sy]]) (k := 11) (l := [(0, .agg #[.int .i64 st_, .int .i64 sn, .int .i64 sx, .int .i64 sy])]) Try.func66 rfl rfl Try.ntmps66 rfl rfl (Wd.start _) ?_
 refine s2 ?_
 refine aW (oX [_, _, _, _]) (fun b1 hb1 => ?_)
 refine s7 ?_
 refine aCB (fun w hw => (OnCentre_any sx sy w).mono (fun _ _ h => by rw [hc0] at h; exact h)) ?_
 refine s8 ?_
 refine kJ [(3, _)] ?_
 refine s6 ?_
 refine JR_one rfl (rr_tmp rfl) ?_
 intro w' hw
 exact ⟨rfl, hw.bel⟩
end Go.Proofs.Ytmcpnoailbmkkaa
/- Layers 2, 7: what is protected; contact; codes. -/
namespace Go.Proofs.Ytmcpnoailbmkkaa
open Go Go.RowKit Go.Proofs
attribute [local irreducible] J JQ JL JA JD

theorem bool2 {a b : Bool} (h : a = true ↔ b = true) : a = b := Bool.eq_iff_iff.2 h
theorem guB_iff {team : Int} {s : St} : guB team s = true ↔ s.t ≠ team ∧ zn s.x s.y = 1 := by unfold guB; simp
set_option maxRecDepth 100000 in
set_option maxHeartbeats 4000000 in
theorem guards_any (c : Cd) (n team : Int) (s : St) (w : World) : Calls Try.prog 90 #[Tnv c n team, Stv s] w (Back (.bool (guB team s)) w) := by
 obtain ⟨kf, kt, ks, ke, kp⟩ := c
 obtain ⟨st_, sn, sx, sy⟩ := s
 obtain ⟨k0, hc0⟩ := zoneR_zn sx sy
 refine J_enter (fun _ => False) (vs := [.agg #[.int .i64 kf, .int .i64 kt, .int .i64 ks, .int .i64 ke, .bool kp, .int .i64 n, .int .i64 team], .agg #[.int .i64 st_, .int .i64 sn, .int .i64 sx, .int .i64 sy]]) (k := 20) (l := [(0, .agg #[.int .i64 kf, .int .i64 kt, .int .i64 ks, .int .i64 ke, .bool kp, .int .i64 n, .int .i64 team]), (1, .agg #[.int .i64 st_, .int .i64 sn, .int .i64 sx, .int .i64 sy])]) Try.func90 rfl rfl Try.ntmps90 rfl rfl (Wd.start _) ?_
 refine s2 ?_
 refine aW (oX [_, _, _, _, _, _, _]) (fun b2 hb2 => ?_)
 refine aW (oX [_, _, _, _]) (fun b3 hb3 => ?_)
 refine s7 ?_
 refine aCB (fun w hw => (Zone_any sx sy w).mono (fun _ _ h => by rw [hc0] at h; exact h)) ?_
 refine s8 ?_
 refine kJ [(2, _), (3, _), (5, _)] ?_
 refine s6 ?_
 refine JL_dec (fun h17 => ?_) (fun h17 => ?_)
 ·refine s3 ?_
  refine JL_dec (fun h20 => ?_) (fun h20 => ?_)
  ·refine s5 ?_
   refine JR_one rfl (rr_tmp rfl) ?_
   intro w' hw
   exact ⟨by congr 2; exact (guB_iff.2 ⟨h17, h20⟩).symm, hw.bel⟩
  ·refine s5 ?_
   refine JR_one rfl (rr_tmp rfl) ?_
   intro w' hw
   exact ⟨by congr 2; exact (Bool.eq_false_iff.2 (fun h => by have := guB_iff.1 h; exact h20 this.2)).symm, hw.bel⟩
 ·refine s8 ?_
  refine JR_one rfl (rr_tmp rfl) ?_
  intro w' hw
  exact ⟨by congr 2; exact (Bool.eq_false_iff.2 (fun h => by have := guB_iff.1 h; exact h17 this.1)).symm, hw.bel⟩
set_option maxRecDepth 100000 in
set_option maxHeartbeats 4000000 in
theorem keeps_any (c : Cd) (n team : Int) (s : St) (w : World) : Calls Try.prog 64 #[Tnv c n team, Stv s] w (Back (.bool (kpB c n team s)) w) := by
 obtain ⟨kf, kt, ks, ke, kp⟩ := c
 obtain ⟨st_, sn, sx, sy⟩ := s
 refine J_enter (fun _ => False) (vs := [.agg #[.int .i64 kf, .int .i64 kt, .int .i64 ks, .int .i64 ke, .bool kp, .int .i64 n, .int .i64 team], .agg #[.int .i64 st_, .int .i64 sn, .int .i64 sx, .int .i64 sy]]) (k := 22) (l := [(0, .agg #[.int .i64 kf, .int .i64 kt, .int .i64 ks, .int .i64 ke, .bool kp, .int .i64 n, .int .i64 team]), (1, .agg #[.int .i64 st_, .int .i64 sn, .int .i64 sx, .int .i64 sy])]) Try.func64 rfl rfl Try.ntmps64 rfl rfl (Wd.start _) ?_
 refine s2 ?_
 refine aW (oX [_, _, _, _, _, _, _]) (fun b2 hb2 => ?_)
 refine aW (oX [_, _, _, _]) (fun b3 hb3 => ?_)
 refine s11 ?_
 refine JL_dec (fun h10 => ?_) (fun h10 => ?_)
 ·refine s17 ?_
  refine JR_one rfl (rr_tmp rfl) ?_
  intro w' hw
  exact ⟨by congr 2; unfold kpB; simp [*], hw.bel⟩
 ·refine s7 ?_
  refine JL_dec (fun h17 => ?_) (fun h17 => ?_)
  ·refine s3 ?_
   refine aCB (fun w hw => guards_any ⟨kf, kt, ks, ke, kp⟩ n team ⟨st_, sn, sx, sy⟩ w) ?_
   refine JL_bool (fun h21 => ?_) (fun h21 => ?_)
   ·refine s6 ?_
    refine JR_one rfl (rr_tmp rfl) ?_
    intro w' hw
    exact ⟨by congr 2; unfold kpB; simp [*], hw.bel⟩
   ·refine s6 ?_
    refine JR_one rfl (rr_tmp rfl) ?_
    intro w' hw
    exact ⟨by congr 2; unfold kpB; simp [*], hw.bel⟩
  ·refine s10 ?_
   refine JR_one rfl (rr_tmp rfl) ?_
   intro w' hw
   exact ⟨by congr 2; unfold kpB; simp [*], hw.bel⟩
set_option maxRecDepth 100000 in
set_option maxHeartbeats 4000000 in
theorem fixes_any (c : Cd) (n team : Int) (s : St) (w : World) : Calls Try.prog 65 #[Tnv c n team, Stv s] w (Back (.bool (fxB c n team s)) w) := by
 obtain ⟨kf, kt, ks, ke, kp⟩ := c
 obtain ⟨st_, sn, sx, sy⟩ := s
 refine J_enter (fun _ => False) (vs := [.agg #[.int .i64 kf, .int .i64 kt, .int .i64 ks, .int .i64 ke, .bool kp, .int .i64 n, .int .i64 team], .agg #[.int .i64 st_, .int .i64 sn, .int .i64 sx, .int .i64 sy]]) (k := 18) (l := [(0, .agg #[.int .i64 kf, .int .i64 kt, .int .i64 ks, .int .i64 ke, .bool kp, .int .i64 n, .int .i64 team]), (1, .agg #[.int .i64 st_, .int .i64 sn, .int .i64 sx, .int .i64 sy])]) Try.func65 rfl rfl Try.ntmps65 rfl rfl (Wd.start _) ?_
 refine s2 ?_
 refine aW (oX [_, _, _, _, _, _, _]) (fun b2 hb2 => ?_)
 refine aW (oX [_, _, _, _]) (fun b3 hb3 => ?_)
 refine s11 ?_
 refine JL_dec (fun h10 => ?_) (fun h10 => ?_)
 ·refine s3 ?_
  refine aCB (fun w hw => guards_any ⟨kf, kt, ks, ke, kp⟩ n team ⟨st_, sn, sx, sy⟩ w) ?_
  refine JL_bool (fun h14 => ?_) (fun h14 => ?_)
  ·refine s3 ?_
   refine aCB (fun w hw => central_any ⟨st_, sn, sx, sy⟩ w) ?_
   refine JL_bool (fun h18 => ?_) (fun h18 => ?_)
   ·refine s5 ?_
    refine JR_one rfl (rr_tmp rfl) ?_
    intro w' hw
    exact ⟨by congr 2; unfold fxB; simp [*], hw.bel⟩
   ·refine s5 ?_
    refine JR_one rfl (rr_tmp rfl) ?_
    intro w' hw
    exact ⟨by congr 2; unfold fxB; simp [*], hw.bel⟩
  ·refine s9 ?_
   refine JR_one rfl (rr_tmp rfl) ?_
   intro w' hw
   exact ⟨by congr 2; unfold fxB; simp [*], hw.bel⟩
 ·refine s13 ?_
  refine JR_one rfl (rr_tmp rfl) ?_
  intro w' hw
  exact ⟨by congr 2; unfold fxB; simp [*], hw.bel⟩
end Go.Proofs.Ytmcpnoailbmkkaa
/- Layers 2, 7: contact; codes. -/
namespace Go.Proofs.Ytmcpnoailbmkkaa
open Go Go.RowKit Go.Proofs
attribute [local irreducible] J JQ JL JA JD

set_option maxRecDepth 100000 in
set_option maxHeartbeats 4000000 in
theorem contact_any (x y u v : Int) (h1 : OkS x y) (h2 : OkS u v) (w : World) : Calls Try.prog 59 #[Sp x y, Sp u v] w (Back (.int .i64 (touZ (x - u) (y - v))) w) := by
 have h1k := h1
 have h2k := h2
 unfold OkS at h1k h2k
 obtain ⟨p, hp⟩ : ∃ p, x - u = p := ⟨_, rfl⟩
 obtain ⟨q, hq⟩ : ∃ q, y - v = q := ⟨_, rfl⟩
 have hap := ab_nn p
 have haq := ab_nn q
 rw [hp, hq]
 refine J_enter (fun _ => False) (vs := [.agg #[.int .i64 x, .int .i64 y], .agg #[.int .i64 u, .int .i64 v]]) (k := 35) (l := [(0, .agg #[.int .i64 x, .int .i64 y]), (1, .agg #[.int .i64 u, .int .i64 v])]) Try.func59 rfl rfl Try.ntmps59 rfl rfl (Wd.start _) ?_
 refine s2 ?_
 refine aW (oX [_, _]) (fun b2 hb2 => ?_)
 refine aW (oX [_, _]) (fun b3 hb3 => ?_)
 refine s4 ?_
 refine xD [0, 1, 2, 3, 4, 5, 6, 7, 8, 9, 10, 11] [1, 3, 6, 8] ?_
 refine s5 ?_
 rw [hp]
 refine s5 ?_
 rw [hq]
 refine s6 ?_
 refine kJ [(5, _), (6, _)] ?_
 refine s2 ?_
 refine aCB (fun w hw => size_any p (by omega) w) ?_
 refine s1 ?_
 refine aCB (fun w hw => size_any q (by omega) w) ?_
 refine s2 ?_
 refine JL_dec (fun h23 => ?_) (fun h23 => ?_)
 ·refine s4 ?_
  refine kJ [] ?_
  refine s6 ?_
  refine JR_one rfl (rr_tmp rfl) ?_
  intro w' hw
  have e : touZ p q = 1 := by unfold touZ sqd; rw [if_pos (by omega)]
  rw [e]; exact ⟨rfl, hw.bel⟩
 ·refine s7 ?_
  have hsp := sq_bound (x := p) (B := 19005440) (by omega)
  have hsq := sq_bound (x := q) (B := 19005440) (by omega)
  refine kJ [(5, _), (6, _)] ?_
  refine s3 ?_
  refine aP (pMul rfl rfl rfl) ?_
  refine s2 ?_
  refine aP (pMul rfl rfl rfl) ?_
  refine aP (pAdd rfl rfl rfl) ?_
  refine s5 ?_
  refine kJ [(7, _)] ?_
  refine s3 ?_
  refine JL_dec (fun h33 => ?_) (fun h33 => ?_)
  ·refine s5 ?_
   refine kJ [] ?_
   refine s7 ?_
   refine JR_one rfl (rr_tmp rfl) ?_
   intro w' hw
   have e : touZ p q = -1 := by unfold touZ sqd; rw [if_neg (by omega), if_pos h33]
   rw [e]; exact ⟨rfl, hw.bel⟩
  ·refine s8 ?_
   refine JL_dec (fun h36 => ?_) (fun h36 => ?_)
   ·refine s5 ?_
    refine kJ [] ?_
    refine s7 ?_
    refine JR_one rfl (rr_tmp rfl) ?_
    intro w' hw
    have e : touZ p q = 1 := by unfold touZ sqd; rw [if_neg (by omega), if_neg (by omega), if_pos (by omega)]
    rw [e]; exact ⟨rfl, hw.bel⟩
   ·refine s8 ?_
    refine kJ [] ?_
    refine s5 ?_
    refine JR_one rfl (rr_tmp rfl) ?_
    intro w' hw
    have e : touZ p q = 0 := by unfold touZ sqd; rw [if_neg (by omega), if_neg (by omega), if_neg (by omega)]
    rw [e]; exact ⟨rfl, hw.bel⟩
set_option maxRecDepth 100000 in
set_option maxHeartbeats 4000000 in
theorem CheckCode_any (c : Cd) (w : World) : Calls Try.prog 28 #[Cdv c] w (Back (.bool (ccB c)) w) := by
 obtain ⟨kf, kt, ks, ke, kp⟩ := c
 refine J_enter (fun _ => False) (vs := [.agg #[.int .i64 kf, .int .i64 kt, .int .i64 ks, .int .i64 ke, .bool kp]]) (k := 33) (l := [(0, .agg #[.int .i64 kf, .int .i64 kt, .int .i64 ks, .int .i64 ke, .bool kp])]) Try.func28 rfl rfl Try.ntmps28 rfl rfl (Wd.start _) ?_
 refine s2 ?_
 refine aW (oX [_, _, _, _, _]) (fun b1 hb1 => ?_)
 refine s12 ?_
 refine aW (ow_sliceC (vs := [_, _, _]) (ty := 3) rfl rfl (by rfl) rfl rfl (fun _ => by kernel_rfl)) (fun b11 hb11 => ?_)
 refine s5 ?_
 refine xL (T := Nat) (fun k => k ≤ 3 ∧ ∀ j, j < k → 0 ≤ ([kf, kt, ks] : List Int).getD j 0 ∧ ([kf, kt, ks] : List Int).getD j 0 ≤ 16) (fun k => [(1, .pointer (some ⟨b1, 0, none⟩)), (11, .slice (some ⟨b11, 0, none⟩) 3 3), (12, .int .i64 3), (13, .int .i64 (k : Nat))]) (fun k => [cellB b11 [.int .i64 kf, .int .i64 kt, .int .i64 ks] 3, cellB b1 [.int .i64 kf, .int .i64 kt, .int .i64 ks, .int .i64 ke, .bool kp] 23]) (fun k => 3 - k) 0 ⟨Nat.zero_le _, fun j h => absurd h (Nat.not_lt_zero _)⟩ ?_
 rintro k ⟨hk, hall⟩
 refine s3 ?_
 refine JL_dec (fun h14 => ?_) (fun h14 => ?_)
 ·refine s9 ?_
  obtain ⟨z, hz, hzk⟩ : ∃ z, ([.int .i64 kf, .int .i64 kt, .int .i64 ks] : List Value)[0 + k * 1 + 0]? = some (.int .i64 z) ∧ ([kf, kt, ks] : List Int).getD k 0 = z := by
   rcases (show k = 0 ∨ k = 1 ∨ k = 2 by omega) with rfl | rfl | rfl
   ·exact ⟨kf, rfl, rfl⟩
   ·exact ⟨kt, rfl, rfl⟩
   ·exact ⟨ks, rfl, rfl⟩
  refine s2 ?_
  refine aV (vCell rfl rfl (by repeat constructor) hz) ?_
  refine s6 ?_
  refine aCB (fun w hw => rwithin _ _ _ w) ?_
  refine JL_dec (fun h18 => ?_) (fun h18 => ?_)
  ·refine s7 ?_
   refine kJ [(1, _), (11, _), (12, _), (13, _)] ?_
   refine s4 ?_
   have hn : ∀ j, j < k + 1 → 0 ≤ ([kf, kt, ks] : List Int).getD j 0 ∧ ([kf, kt, ks] : List Int).getD j 0 ≤ 16 := fun j hj => by
    rcases Nat.lt_or_ge j k with h | h
    ·exact hall j h
    ·obtain rfl : j = k := by omega
     rw [hzk]; exact h18
   exact xR (k + 1) ⟨by omega, hn⟩ (by omega) (hl := ⟨rfl, rfl, rfl, (congrArg some (by go_num)), trivial⟩)
  ·refine s5 ?_
   refine kJ [] ?_
   refine s10 ?_
   refine JR_one rfl (rr_tmp rfl) ?_
   intro w' hw
   exact ⟨by congr 2; exact cc_no (fun ⟨g1, g2, g3, g4, g5⟩ => by dsimp only at g1 g2 g3; rcases (show k = 0 ∨ k = 1 ∨ k = 2 by omega) with rfl | rfl | rfl <;> (simp at hzk; omega)), hw.bel⟩
 ·refine s10 ?_
  obtain rfl : k = 3 := by omega
  refine kJ [(1, _)] ?_
  refine s3 ?_
  refine aCB (fun w hw => rwithin _ _ _ w) ?_
  refine JL_dec (fun h23 => ?_) (fun h23 => ?_)
  ·refine s3 ?_
   refine JL_bool (fun h26 => ?_) (fun h26 => ?_)
   ·refine s5 ?_
    refine JL_dec (fun h31 => ?_) (fun h31 => ?_)
    ·refine s6 ?_
     refine JR_one rfl (rr_tmp rfl) ?_
     intro w' hw
     exact ⟨by congr 2; first | exact cc_yes ⟨hall 0 (by omega), hall 1 (by omega), hall 2 (by omega), by dsimp only; omega, fun hp => by dsimp only at hp ⊢; first | omega | (rw [h26] at hp; cases hp)⟩ | exact cc_no (fun ⟨g1, g2, g3, g4, g5⟩ => by dsimp only at g1 g2 g3 g4 g5; first | omega | (have := g5 h26; omega)), hw.bel⟩
    ·refine s6 ?_
     refine JR_one rfl (rr_tmp rfl) ?_
     intro w' hw
     exact ⟨by congr 2; first | exact cc_yes ⟨hall 0 (by omega), hall 1 (by omega), hall 2 (by omega), by dsimp only; omega, fun hp => by dsimp only at hp ⊢; first | omega | (rw [h26] at hp; cases hp)⟩ | exact cc_no (fun ⟨g1, g2, g3, g4, g5⟩ => by dsimp only at g1 g2 g3 g4 g5; first | omega | (have := g5 h26; omega)), hw.bel⟩
   ·refine s11 ?_
    refine JR_one rfl (rr_tmp rfl) ?_
    intro w' hw
    exact ⟨by congr 2; first | exact cc_yes ⟨hall 0 (by omega), hall 1 (by omega), hall 2 (by omega), by dsimp only; omega, fun hp => by dsimp only at hp ⊢; first | omega | (rw [h26] at hp; cases hp)⟩ | exact cc_no (fun ⟨g1, g2, g3, g4, g5⟩ => by dsimp only at g1 g2 g3 g4 g5; first | omega | (have := g5 h26; omega)), hw.bel⟩
  ·refine s14 ?_
   refine JR_one rfl (rr_tmp rfl) ?_
   intro w' hw
   exact ⟨by congr 2; first | fail | exact cc_no (fun ⟨g1, g2, g3, g4, g5⟩ => by dsimp only at g1 g2 g3 g4 g5; first | omega), hw.bel⟩
end Go.Proofs.Ytmcpnoailbmkkaa
/- Layer 2: pairs, Overlap. -/
namespace Go.Proofs.Ytmcpnoailbmkkaa
open Go Go.RowKit Go.Proofs
attribute [local irreducible] J JQ JL JA JD

section
variable {P : Program} {n : Nat} {B : Bs} {l : Sl} {H : List It} {o : Oper} {t : TypeId} {x : Operand}
theorem vHoldP {α : Type} {enc : α → List Value} {k m i b p j : Nat} {L : List α} {cs : List Value} [g : Agg P t true] [z : Siz P t m] (ho : o.op = .load t x) (hx : evl l x = some (.pointer (some ⟨b, p + j * k + i, none⟩))) (hm : ¬ B.m b) (hc : HoldL k enc B.w b p L) (hj : j < L.length) (hl : cs.length = m) (hi : i + m ≤ k) (hv : ((enc (L[j]'hj)).drop i).take m = cs) : RV P n B l H o (.agg cs.toArray) :=
 rv_oldagg ho hx g.h (by rw [hl]; exact z.h) hm (fun q v hq => by
  have hqm : q < m := by rw [← hl]; exact (List.getElem?_eq_some_iff.1 hq).1
  have h1 := hc j hj (i + q) (by omega)
  rw [show p + j * k + i + q = p + j * k + (i + q) by omega, h1]
  rw [← hv, List.getElem?_take, if_pos hqm, List.getElem?_drop] at hq
  exact hq)
theorem vOldC {b off : Nat} {cs vs : List Value} {ty : TypeId} [g : Agg P t true] [z : Siz P t cs.length] (ho : o.op = .load t x) (hx : evl l x = some (.pointer (some ⟨b, off, none⟩))) (hm : ¬ B.m b) (hc : (cellB b vs ty).holds B.w) (hv : (vs.drop off).take cs.length = cs) : RV P n B l H o (.agg cs.toArray) :=
 rv_oldagg ho hx g.h z.h hm (fun q v hq => cellB_get hc (by
  have hqm : q < cs.length := (List.getElem?_eq_some_iff.1 hq).1
  rw [← hv, List.getElem?_take, if_pos hqm, List.getElem?_drop] at hq
  exact hq))
end
/-- A predicate of stones, as a closure. -/
def PrT (f : FuncId) (caps : Array Value) (p : St → Bool) (l : List St) (w0 : World) : Prop := ∀ x ∈ l, ∀ W, Below w0.heap.size w0 W → Calls Try.prog f (#[] ++ #[Stv x] ++ caps) W (Back (.bool (p x)) W)
theorem PrT.up {f : FuncId} {caps : Array Value} {p : St → Bool} {l : List St} {w w1 : World} (h : PrT f caps p l w) (hb : Below w.heap.size w w1) : PrT f caps p l w1 := fun x hx W hW => h x hx W (hb.trans (hW.mono hb.size))
set_option maxRecDepth 100000 in
set_option maxHeartbeats 4000000 in
theorem IndexFuncT (f : FuncId) (caps : Array Value) (p : St → Bool) (l : List St) (v : Value) (w : World) [hf : Cf Try.prog f] (hcl : PrT f caps p l w) (hrow : Arr 4 eT w v l) : Calls Try.prog 76 #[v, .func (.func f) #[] caps] w (Back (.int .i64 (fidx p l)) w) := by
 obtain ⟨A, cap, rfl, -, ⟨hl, -⟩, hA⟩ := hrow
 refine J_enter (fun _ => False) (vs := [.slice A l.length cap, .func (.func f) #[] caps]) (k := 17) (l := [(0, .slice A l.length cap), (1, .func (.func f) #[] caps)]) Try.func76 rfl rfl Try.ntmps76 rfl rfl (Wd.start _) ?_
 refine s14 ?_
 refine xL (T := Nat) (fun k => k ≤ l.length ∧ ∀ j (hj : j < l.length), j < k → p (l[j]'hj) = false) (fun k => [(0, .slice A l.length cap), (1, .func (.func f) #[] caps), (7, .int .i64 (l.length : Nat)), (8, .int .i64 (k : Nat))]) (fun k => []) (fun k => l.length - k) 0 ⟨Nat.zero_le _, fun j _ h => absurd h (Nat.not_lt_zero _)⟩ ?_
 rintro k ⟨hk, hall⟩
 refine s3 ?_
 refine JL_dec (fun h9 => ?_) (fun h9 => ?_)
 ·refine s15 ?_
  have hltx : k < l.length := by omega
  obtain ⟨bx, qx, rfl, hh⟩ := hA (by intro e; subst e; simp at hltx)
  obtain ⟨⟨xt, xn, xx, xy⟩, hx⟩ : ∃ y, l[k]'hltx = y := ⟨_, rfl⟩
  have hmx : (⟨xt, xn, xx, xy⟩ : St) ∈ l := by rw [← hx]; exact List.getElem_mem _
  refine s5 ?_
  refine aV (vHoldA (cs := [.int .i64 xt, .int .i64 xn, .int .i64 xx, .int .i64 xy]) ET rfl rfl (fun h => h) hh hltx (by rw [hx]; rfl)) ?_
  refine aW (ow_callB (ec_val rfl rfl rfl Cf.h) rfl rfl (fun w hw => hcl (⟨xt, xn, xx, xy⟩ : St) hmx w hw.bel)) (fun _ _ => ?_)
  refine JL_bool (fun h16 => ?_) (fun h16 => ?_)
  ·refine s4 ?_
   refine kJ [(5, _)] ?_
   refine s11 ?_
   refine JR_one rfl (rr_tmp rfl) ?_
   intro w' hw
   exact ⟨by rw [fidx_at hltx (by rw [hx]; exact h16) (fun j hj => hall j (by omega) hj)], hw.bel⟩
  ·refine s6 ?_
   refine kJ [(0, _), (1, _), (7, _), (8, _)] ?_
   refine s4 ?_
   have hn : ∀ j (hj : j < l.length), j < k + 1 → p (l[j]'hj) = false := fun j hj hjk => by
    rcases Nat.lt_or_ge j k with h | h
    ·exact hall j hj h
    ·obtain rfl : j = k := by omega
     rw [hx]; exact h16
   exact xR (k + 1) ⟨by omega, hn⟩ (by omega) (hl := ⟨rfl, rfl, rfl, (congrArg some (by go_num)), trivial⟩)
 ·refine s10 ?_
  refine kJ [] ?_
  refine s5 ?_
  refine JR_one rfl (rr_tmp rfl) ?_
  intro w' hw
  exact ⟨by rw [fidx_none (fun j hj => hall j hj (by omega))], hw.bel⟩
set_option maxRecDepth 100000 in
set_option maxHeartbeats 4000000 in
theorem ov_any (a b : St) (w : World) : Calls Try.prog 58 #[Stv a, Stv b] w (Back (.bool (ovB a b)) w) := by
 obtain ⟨xt, xn, xx, xy⟩ := a
 obtain ⟨yt, yn, yx, yy⟩ := b
 refine J_enter (fun _ => False) (vs := [.agg #[.int .i64 xt, .int .i64 xn, .int .i64 xx, .int .i64 xy], .agg #[.int .i64 yt, .int .i64 yn, .int .i64 yx, .int .i64 yy]]) (k := 19) (l := [(0, .agg #[.int .i64 xt, .int .i64 xn, .int .i64 xx, .int .i64 xy]), (1, .agg #[.int .i64 yt, .int .i64 yn, .int .i64 yx, .int .i64 yy])]) Try.func58 rfl rfl Try.ntmps58 rfl rfl (Wd.start _) ?_
 refine s2 ?_
 refine aW (oX [_, _, _, _]) (fun b2 hb2 => ?_)
 refine aW (oX [_, _, _, _]) (fun b3 hb3 => ?_)
 refine s7 ?_
 refine aCB (fun w hw => CheckSpot_any xx xy w) ?_
 refine JL_dec (fun h7 => ?_) (fun h7 => ?_)
 ·refine s3 ?_
  refine aCB (fun w hw => CheckSpot_any yx yy w) ?_
  refine JL_dec (fun h11 => ?_) (fun h11 => ?_)
  ·refine s6 ?_
   refine aCB (fun w hw => contact_any xx xy yx yy h7 h11 w) ?_
   refine s1 ?_
   refine JL_dec (fun h19 => ?_) (fun h19 => ?_)
   ·refine s5 ?_
    refine JR_one rfl (rr_tmp rfl) ?_
    intro w' hw
    exact ⟨by congr 2; exact (decide_eq_true ⟨h7, h11, h19⟩).symm, hw.bel⟩
   ·refine s5 ?_
    refine JR_one rfl (rr_tmp rfl) ?_
    intro w' hw
    exact ⟨by congr 2; exact (decide_eq_false (fun h => h19 h.2.2)).symm, hw.bel⟩
  ·refine s13 ?_
   refine JR_one rfl (rr_tmp rfl) ?_
   intro w' hw
   exact ⟨by congr 2; exact (decide_eq_false (fun h => h11 h.2.1)).symm, hw.bel⟩
 ·refine s17 ?_
  refine JR_one rfl (rr_tmp rfl) ?_
  intro w' hw
  exact ⟨by congr 2; exact (decide_eq_false (fun h => h7 h.1)).symm, hw.bel⟩
instance : Cf Try.prog 58 := ⟨fun _ _ => by kernel_rfl⟩
instance : Cf Try.prog 77 := ⟨fun _ _ => by kernel_rfl⟩
set_option maxRecDepth 100000 in
set_option maxHeartbeats 4000000 in
theorem pair1_any (a b : St) (b3 b7 : Nat) (w : World) (h1 : (cellB b3 [.func (.func 58) #[] #[]] 122).holds w) (h2 : (cellB b7 (eT a) 49).holds w) : Calls Try.prog 77 (#[] ++ #[Stv b] ++ #[.pointer (some ⟨b3, 0, none⟩), .pointer (some ⟨b7, 0, none⟩)]) w (Back (.bool (ovB a b)) w) := by
 obtain ⟨xt, xn, xx, xy⟩ := a
 obtain ⟨yt, yn, yx, yy⟩ := b
 unfold eT at h2
 refine J_enter (fun _ => False) (vs := [.agg #[.int .i64 yt, .int .i64 yn, .int .i64 yx, .int .i64 yy], .pointer (some ⟨b3, 0, none⟩), .pointer (some ⟨b7, 0, none⟩)]) (k := 6) (l := [(0, .agg #[.int .i64 yt, .int .i64 yn, .int .i64 yx, .int .i64 yy]), (1, .pointer (some ⟨b3, 0, none⟩)), (2, .pointer (some ⟨b7, 0, none⟩))]) Try.func77 rfl rfl Try.ntmps77 rfl rfl (Wd.start _) ?_
 refine s2 ?_
 refine aW (oX [_, _, _, _]) (fun b3 hb3 => ?_)
 refine s5 ?_
 refine aV (vOld rfl rfl (fun h => h) (cellB_get h1 rfl)) ?_
 refine aV (vOldC (cs := [.int .i64 xt, .int .i64 xn, .int .i64 xx, .int .i64 xy]) rfl rfl (fun h => h) h2 rfl) ?_
 refine s1 ?_
 refine aW (ow_callB (ec_val rfl rfl rfl Cf.h) rfl rfl (fun w hw => ov_any (⟨xt, xn, xx, xy⟩ : St) (⟨yt, yn, yx, yy⟩ : St) w)) (fun _ _ => ?_)
 refine s4 ?_
 refine JR_one rfl (rr_tmp rfl) ?_
 intro w' hw
 exact ⟨rfl, hw.bel⟩
theorem pair_pos {l : List St} {k : Nat} (hk : k < l.length) (hall : pairF ovB l 0 = pairF ovB (l.drop k) k) (h : 0 ≤ fidx (ovB (l[k]'hk)) (l.drop (k + 1))) : pairF ovB l 0 = ((k : Int), (k : Int) + 1 + fidx (ovB (l[k]'hk)) (l.drop (k + 1))) := by
 rw [hall, pairF_step hk, if_pos h]
theorem pair_neg {l : List St} {k : Nat} (hk : k < l.length) (hall : pairF ovB l 0 = pairF ovB (l.drop k) k) (h : ¬ 0 ≤ fidx (ovB (l[k]'hk)) (l.drop (k + 1))) : pairF ovB l 0 = pairF ovB (l.drop (k + 1)) (k + 1) := by
 rw [hall, pairF_step hk, if_neg h]
theorem fidx_le {α : Type} (p : α → Bool) (l : List α) : -1 ≤ fidx p l ∧ fidx p l ≤ l.length := by unfold fidx; split <;> omega
set_option maxRecDepth 100000 in
set_option maxHeartbeats 4000000 in
theorem pair_any (l : List St) (v : Value) (w : World) (hrow : Arr 4 eT w v l) (hl9 : l.length ≤ 1000000) : Calls Try.prog 57 #[v, .func (.func 58) #[] #[]] w (Back (.tuple #[.int .i64 (pairF ovB l 0).1, .int .i64 (pairF ovB l 0).2]) w) := by
 have hrow0 := hrow
 obtain ⟨A, cap, rfl, -, ⟨hl, -⟩, hA⟩ := hrow
 refine J_enter (fun _ => False) (vs := [.slice A l.length cap, .func (.func 58) #[] #[]]) (k := 28) (l := [(0, .slice A l.length cap), (1, .func (.func 58) #[] #[])]) Try.func57 rfl rfl Try.ntmps57 rfl rfl (Wd.start _) ?_
 refine s2 ?_
 refine aW (oX [_]) (fun b3 hb3 => ?_)
 refine s13 ?_
 refine xL (T := Nat) (fun k => k ≤ l.length ∧ pairF ovB l 0 = pairF ovB (l.drop k) k) (fun k => [(0, .slice A l.length cap), (3, .pointer (some ⟨b3, 0, none⟩)), (9, .slice A l.length cap), (10, .int .i64 (l.length : Nat)), (11, .int .i64 (k : Nat))]) (fun k => [cellB b3 [.func (.func 58) #[] #[]] 122]) (fun k => l.length - k) 0 ⟨Nat.zero_le _, rfl⟩ ?_
 rintro k ⟨hk, hall⟩
 refine s3 ?_
 refine JL_dec (fun h12 => ?_) (fun h12 => ?_)
 ·refine s9 ?_
  have hltx : k < l.length := by omega
  obtain ⟨bx, qx, rfl, hh⟩ := hA (by intro e; subst e; simp at hltx)
  obtain ⟨⟨xt, xn, xx, xy⟩, hx⟩ : ∃ y, l[k]'hltx = y := ⟨_, rfl⟩
  have hmx : (⟨xt, xn, xx, xy⟩ : St) ∈ l := by rw [← hx]; exact List.getElem_mem _
  refine s3 ?_
  refine aV (vHoldA (cs := [.int .i64 xt, .int .i64 xn, .int .i64 xx, .int .i64 xy]) ET rfl rfl (fun h => h) hh hltx (by rw [hx]; rfl)) ?_
  refine aW oA (fun b7 hb7 => ?_)
  refine s5 ?_
  refine kJ [(0, _), (3, _), (6, _), (7, _), (9, _), (10, _), (11, _)] ?_
  refine s4 ?_
  refine aP (rp_sliceFrom (k := k + 1) rfl rfl rfl Und.h Siz.h (by go_num) (by omega)) ?_
  refine s1 ?_
  refine aCB (fun w hw => (IndexFuncT 77 _ (ovB (⟨xt, xn, xx, xy⟩ : St)) (l.drop (k + 1)) _ w (fun y hy W hW => pair1_any (⟨xt, xn, xx, xy⟩ : St) y b3 b7 W ((hw.up hW).ok (cellB b3 [.func (.func 58) #[] #[]] 122) (by repeat constructor)).1 ((hw.up hW).ok (cellB b7 (eT (⟨xt, xn, xx, xy⟩ : St)) 49) (by repeat constructor)).1) ((hrow0.up ET hw.bel).drop (by omega))).mono (fun _ _ h => h)) ?_
  have hfl := fidx_le (ovB (⟨xt, xn, xx, xy⟩ : St)) (l.drop (k + 1))
  rw [List.length_drop] at hfl
  refine s4 ?_
  refine kJ [(0, _), (3, _), (6, _), (8, _), (9, _), (10, _), (11, _)] ?_
  refine s3 ?_
  refine JL_dec (fun h23 => ?_) (fun h23 => ?_)
  ·refine s4 ?_
   refine kJ [(6, _), (8, _)] ?_
   refine s16 ?_
   refine JR_two rfl (rr_tmp rfl) (rr_tmp rfl) ?_
   intro w' hw
   exact ⟨by rw [pair_pos hltx hall (by rw [hx]; omega), hx], hw.bel⟩
  ·refine s6 ?_
   refine kJ [(0, _), (3, _), (9, _), (10, _), (11, _)] ?_
   refine s4 ?_
   have hn := pair_neg hltx hall (by rw [hx]; omega)
   exact xR (k + 1) ⟨by omega, hn⟩ (by omega) (hl := ⟨rfl, rfl, rfl, rfl, (congrArg some (by go_num)), trivial⟩)
 ·refine s10 ?_
  refine kJ [] ?_
  refine s6 ?_
  refine JR_two rfl (rr_tmp rfl) (rr_tmp rfl) ?_
  intro w' hw
  obtain rfl : k = l.length := by omega
  rw [List.drop_length] at hall
  exact ⟨by rw [hall]; rfl, hw.bel⟩
end Go.Proofs.Ytmcpnoailbmkkaa
/- Layer 2: Overlap, Find, Check (document). -/
namespace Go.Proofs.Ytmcpnoailbmkkaa
open Go Go.RowKit Go.Proofs
attribute [local irreducible] J JQ JL JA JD

set_option maxRecDepth 100000 in
set_option maxHeartbeats 4000000 in
theorem Overlap_any (l : List St) (v : Value) (w : World) (hrow : Arr 4 eT w v l) (hl9 : l.length ≤ 1000000) : Calls Try.prog 39 #[v] w (Back (.tuple #[.int .i64 (pairF ovB l 0).1, .int .i64 (pairF ovB l 0).2]) w) := by
 have hrow0 := hrow
 obtain ⟨A, cap, rfl, -, ⟨hl, -⟩, hA⟩ := hrow
 refine J_enter (fun _ => False) (vs := [.slice A l.length cap]) (k := 7) (l := [(0, .slice A l.length cap)]) Try.func39 rfl rfl Try.ntmps39 rfl rfl (Wd.start _) ?_
 refine s9 ?_
 refine aCB (fun w hw => pair_any l _ w (hrow0.up ET hw.bel) hl9) ?_
 refine s7 ?_
 refine JR_two rfl (rr_tmp rfl) (rr_tmp rfl) ?_
 intro w' hw
 exact ⟨rfl, hw.bel⟩
def findR (t n : Int) (l : List St) : Value := if fidx (isB t n) l < 0 then .tuple #[.int .i64 0, .int .i64 7] else .tuple #[.int .i64 (fidx (isB t n) l), .int .i64 0]
theorem isB_no {t n : Int} {s : St} (h : ¬ (s.t = t ∧ s.n = n)) : isB t n s = false := Bool.eq_false_iff.2 (fun h' => h (by unfold isB at h'; simpa using h'))
theorem isB_yes {t n : Int} {s : St} (h1 : s.t = t) (h2 : s.n = n) : isB t n s = true := by unfold isB; simp [h1, h2]
theorem fidx_ge {α : Type} (p : α → Bool) (l : List α) : -1 ≤ fidx p l := (fidx_le p l).1
end Go.Proofs.Ytmcpnoailbmkkaa
/- Layer 2: Check (document). -/
namespace Go.Proofs.Ytmcpnoailbmkkaa
open Go Go.RowKit Go.Proofs
attribute [local irreducible] J JQ JL JA JD

theorem good_s {l : List St} {k : Nat} {x : St} (hk : k < l.length) (hx : l[k]'hk = x) (h : goodF [] l = goodF (l.take k) (l.drop k)) (h1 : okSt x) (h2 : ∀ q (hq : q < l.length), q < k → nameB (l[q]'hq) x = false) : goodF [] l = goodF (l.take (k + 1)) (l.drop (k + 1)) := by
 rw [h, goodF_step hk, hx, decide_eq_true h1, all_take (by omega) h2]; rfl
theorem good_n1 {l : List St} {k : Nat} {x : St} (hk : k < l.length) (hx : l[k]'hk = x) (h : goodF [] l = goodF (l.take k) (l.drop k)) (h1 : ¬ okSt x) : chkB l = false := by
 unfold chkB
 rw [h, goodF_step hk, hx, decide_eq_false h1]; simp
theorem good_n2 {l : List St} {k j : Nat} {x : St} (hk : k < l.length) (hx : l[k]'hk = x) (h : goodF [] l = goodF (l.take k) (l.drop k)) (hj : j < k) (h1 : nameB (l[j]'(by omega)) x = true) : chkB l = false := by
 unfold chkB
 rw [h, goodF_step hk, hx, not_all_take (by omega) hj h1]; simp
theorem good_e {l : List St} (h16 : l.length ≤ 16) (h : goodF [] l = goodF (l.take l.length) (l.drop l.length)) : chkB l = decide ((pairF ovB l 0).1 < 0) := by
 unfold chkB
 rw [h, List.drop_length, decide_eq_true h16]
 show (true && true && _) = _
 rfl
theorem chk_big {l : List St} (h : ¬ l.length ≤ 16) : chkB l = false := by unfold chkB; rw [decide_eq_false h]; rfl
theorem nameB_no {a b : St} (h : ¬ (a.t = b.t ∧ a.n = b.n)) : nameB a b = false := Bool.eq_false_iff.2 (fun h' => h (by unfold nameB at h'; simpa using h'))
theorem nameB_yes {a b : St} (h1 : a.t = b.t) (h2 : a.n = b.n) : nameB a b = true := by unfold nameB; simp [h1, h2]
end Go.Proofs.Ytmcpnoailbmkkaa
/- Layer 2: names as keys; Check. -/
namespace Go.Proofs.Ytmcpnoailbmkkaa
open Go Go.RowKit Go.Proofs
attribute [local irreducible] J JQ JL JA JD

/-- A stone's name, as a key. -/
def kN (p : Int × Int) : Value := .agg #[.int .i64 p.1, .int .i64 p.2]
def okN2 (p : Int × Int) : Prop := W64 p.1 ∧ W64 p.2
theorem laidOut : laidOutB Try.prog = true := by kernel_rfl
theorem row89 : (89 : TypeId) < Try.prog.types.size := of_decide_eq_true (by kernel_rfl)
theorem cells89 : Try.prog.cellsOf 89 = 2 := by kernel_rfl
theorem KNS : KeyL Try.prog 89 kN okN2 where
 law := Go.Maps.Keyed.of_law (deep_law_laid laidOut (m := 2) (by omega) row89 (by kernel_rfl) (by kernel_rfl))
 key := fun p hp => by
  obtain ⟨x, y⟩ := p
  have h1 := wf64 hp.1
  have h2 := wf64 hp.2
  have hk : Try.prog.keyType 89 = true := by kernel_rfl
  have hf : (kN (x, y)).formed Try.prog 89 = true := by simp [kN, Value.formed, Try.underlying89, cells89]
  have hc3 : Try.prog.cellsOf 3 = 1 := by kernel_rfl
  obtain ⟨n, hn⟩ : ∃ n, Try.prog.types.size = n + 1 := ⟨172, by kernel_rfl⟩
  unfold keyOf
  rw [Try.underlying89]
  simp only [hk, hf, hn, Bool.and_self, if_true]
  refine ⟨.string (keyBytes [.int .i64 x, .int .i64 y]), ?_⟩
  rw [Option.map_eq_some_iff]
  refine ⟨[.int .i64 x, .int .i64 y], ?_, rfl⟩
  dsimp only at h1 h2
  simp [kN, Program.keyLits, Try.underlying89, Try.underlying3, cells89, hc3, h1, h2, Value.cells]
 inj := fun x y h => by
  obtain ⟨x1, x2⟩ := x
  obtain ⟨y1, y2⟩ := y
  simpa [kN] using h
theorem row102 : (102 : TypeId) < Try.prog.types.size := of_decide_eq_true (by kernel_rfl)
theorem cells102 : Try.prog.cellsOf 102 = 2 := by kernel_rfl
theorem KNR : KeyL Try.prog 102 kN okN2 where
 law := Go.Maps.Keyed.of_law (deep_law_laid laidOut (m := 2) (by omega) row102 (by kernel_rfl) (by kernel_rfl))
 key := fun p hp => by
  obtain ⟨x, y⟩ := p
  have h1 := wf64 hp.1
  have h2 := wf64 hp.2
  have hk : Try.prog.keyType 102 = true := by kernel_rfl
  have hf : (kN (x, y)).formed Try.prog 102 = true := by simp [kN, Value.formed, Try.underlying102, cells102]
  have hc3 : Try.prog.cellsOf 3 = 1 := by kernel_rfl
  obtain ⟨n, hn⟩ : ∃ n, Try.prog.types.size = n + 1 := ⟨172, by kernel_rfl⟩
  unfold keyOf
  rw [Try.underlying102]
  simp only [hk, hf, hn, Bool.and_self, if_true]
  refine ⟨.string (keyBytes [.int .i64 x, .int .i64 y]), ?_⟩
  rw [Option.map_eq_some_iff]
  refine ⟨[.int .i64 x, .int .i64 y], ?_, rfl⟩
  dsimp only at h1 h2
  simp [kN, Program.keyLits, Try.underlying102, Try.underlying3, cells102, hc3, h1, h2, Value.cells]
 inj := fun x y h => by
  obtain ⟨x1, x2⟩ := x
  obtain ⟨y1, y2⟩ := y
  simpa [kN] using h
theorem good_sN {l : List St} {k : Nat} {x : St} (hk : k < l.length) (hx : l[k]'hk = x) (h : goodF [] l = goodF (l.take k) (l.drop k)) (h1 : okSt x) (h2 : (x.t, x.n) ∉ namesR (l.take k)) : goodF [] l = goodF (l.take (k + 1)) (l.drop (k + 1)) := by
 rw [h, goodF_step hk, hx, decide_eq_true h1, names_all, decide_eq_false h2]; rfl
theorem good_nN {l : List St} {k : Nat} {x : St} (hk : k < l.length) (hx : l[k]'hk = x) (h : goodF [] l = goodF (l.take k) (l.drop k)) (h2 : (x.t, x.n) ∈ namesR (l.take k)) : chkB l = false := by
 unfold chkB
 rw [h, goodF_step hk, hx, names_all, decide_eq_true h2]; simp
theorem names_s {l : List St} {k : Nat} {x : St} (hk : k < l.length) (hx : l[k]'hk = x) : namesR (l.take (k + 1)) = (x.t, x.n) :: namesR (l.take k) := by
 rw [List.take_succ_eq_append_getElem hk, namesR_snoc, hx]
@[reducible] instance (priority := high) beqNN : BEq (Int × Int) := instBEqOfDecidableEq
set_option maxRecDepth 100000 in
set_option maxHeartbeats 4000000 in
theorem Check_any (l : List St) (v : Value) (w : World) (hrow : Arr 4 eT w v l) : Calls Try.prog 20 #[v] w (Back (.bool (chkB l)) w) := by
 have hrow0 := hrow
 obtain ⟨A, cap, rfl, -, ⟨hl, -⟩, hA⟩ := hrow
 refine J_enter (fun _ => False) (vs := [.slice A l.length cap]) (k := 60) (l := [(0, .slice A l.length cap)]) Try.func20 rfl rfl Try.ntmps20 rfl rfl (Wd.start _) ?_
 refine s11 ?_
 refine JL_dec (fun h11 => ?_) (fun h11 => ?_)
 ·refine s4 ?_
  refine kJ [] ?_
  refine s6 ?_
  refine JR_one rfl (rr_tmp rfl) ?_
  intro w' hw
  exact ⟨by rw [chk_big (by omega)], hw.bel⟩
 ·refine s6 ?_
  refine kJ [(0, _)] ?_
  refine s1 ?_
  refine aW (ow_makeSet (kt := 89) (kv := kN) (ok := okN2) rfl rfl rfl (fun _ => by kernel_rfl)) (fun b12 hb12 => ?_)
  refine s12 ?_
  refine xL (T := Nat) (fun k => k ≤ l.length ∧ goodF [] l = goodF (l.take k) (l.drop k)) (fun k => [(0, .slice A l.length cap), (3, .map (some b12)), (13, .slice A l.length cap), (14, .int .i64 (l.length : Nat)), (15, .int .i64 (k : Nat))]) (fun k => [setB Try.prog 89 kN okN2 b12 (namesR (l.take k))]) (fun k => l.length - k) 0 ⟨Nat.zero_le _, rfl⟩ ?_ (hH := by (try dsimp only); rw [show namesR (l.take 0) = [] from rfl]; repeat constructor)
  rintro k ⟨hk, hall⟩
  refine s3 ?_
  refine JL_dec (fun h16 => ?_) (fun h16 => ?_)
  ·refine s9 ?_
   have hltx : k < l.length := by omega
   obtain ⟨bx, qx, rfl, hh⟩ := hA (by intro e; subst e; simp at hltx)
   obtain ⟨⟨xt, xn, xx, xy⟩, hx⟩ : ∃ y, l[k]'hltx = y := ⟨_, rfl⟩
   have hmx : (⟨xt, xn, xx, xy⟩ : St) ∈ l := by rw [← hx]; exact List.getElem_mem _
   refine s2 ?_
   refine aV (vHoldA (cs := [.int .i64 xt, .int .i64 xn, .int .i64 xx, .int .i64 xy]) ET rfl rfl (fun h => h) hh hltx (by rw [hx]; rfl)) ?_
   refine aW oA (fun b5 hb5 => ?_)
   refine s9 ?_
   refine aP (rp_buildC (fun us => [us.getD 0 undef, us.getD 1 undef]) rfl rfl (fun w => by kernel_rfl)) ?_
   refine aW oA (fun b6 hb6 => ?_)
   refine s5 ?_
   refine kJ [(0, _), (3, _), (5, _), (6, _), (13, _), (14, _), (15, _)] ?_
   refine s3 ?_
   refine aCB (fun w hw => swithin _ _ _ w) ?_
   refine JL_dec (fun h26 => ?_) (fun h26 => ?_)
   ·refine s4 ?_
    refine aCB (fun w hw => swithin _ _ _ w) ?_
    refine JL_dec (fun h31 => ?_) (fun h31 => ?_)
    ·refine s5 ?_
     refine aCB (fun w hw => CheckSpot_any xx xy w) ?_
     refine JL_dec (fun h37 => ?_) (fun h37 => ?_)
     ·refine s5 ?_
      refine aCB (fun w hw => zone_any xx xy h37 w) ?_
      refine s1 ?_
      refine JL_dec (fun h44 => ?_) (fun h44 => ?_)
      ·refine s10 ?_
       refine kJ [] ?_
       refine s11 ?_
       refine JR_one rfl (rr_tmp rfl) ?_
       intro w' hw
       exact ⟨by rw [good_n1 hltx hx hall (fun h => (zone_away _ _).1 h44 h.2.2)], hw.bel⟩
      ·refine s4 ?_
       refine aV (rv_lookS KNS LBool (xt, xn) Und.h rfl rfl rfl (by repeat constructor) rfl ⟨by unfold W64; dsimp only; omega, by unfold W64; dsimp only; omega⟩) ?_
       refine JL_dec (fun h49 => ?_) (fun h49 => ?_)
       ·refine s5 ?_
        refine kJ [] ?_
        refine s11 ?_
        refine JR_one rfl (rr_tmp rfl) ?_
        intro w' hw
        exact ⟨by rw [good_nN hltx hx hall h49], hw.bel⟩
       ·refine s6 ?_
        refine kJ [(0, _), (3, _), (6, _), (13, _), (14, _), (15, _)] ?_
        refine s3 ?_
        refine aW0 (ow_putS KNS LBool (xt, xn) Und.h rfl rfl rfl rfl rfl rfl rfl (by repeat constructor) ⟨by unfold W64; dsimp only; omega, by unfold W64; dsimp only; omega⟩ (by rw [namesR_len, List.length_take]; omega)) ?_
        refine s7 ?_
        have hn := good_sN hltx hx hall ⟨⟨h26, h31⟩, h37, (Decidable.not_not.1 (fun h => h44 ((zone_away _ _).2 h)))⟩ h49
        have hs := names_s hltx hx
        dsimp only at hs
        exact xR (k + 1) ⟨by omega, hn⟩ (by omega) (hl := ⟨rfl, rfl, rfl, rfl, (congrArg some (by go_num)), trivial⟩) (hH := by (try dsimp only); rw [hs]; repeat constructor)
     ·refine s17 ?_
      refine kJ [] ?_
      refine s11 ?_
      refine JR_one rfl (rr_tmp rfl) ?_
      intro w' hw
      exact ⟨by rw [good_n1 hltx hx hall (fun h => h37 h.2.1)], hw.bel⟩
    ·refine s23 ?_
     refine kJ [] ?_
     refine s11 ?_
     refine JR_one rfl (rr_tmp rfl) ?_
     intro w' hw
     exact ⟨by rw [good_n1 hltx hx hall (fun h => h31 h.1.2)], hw.bel⟩
   ·refine s28 ?_
    refine kJ [] ?_
    refine s11 ?_
    refine JR_one rfl (rr_tmp rfl) ?_
    intro w' hw
    exact ⟨by rw [good_n1 hltx hx hall (fun h => h26 h.1.1)], hw.bel⟩
  ·refine s10 ?_
   refine kJ [(0, _)] ?_
   refine s2 ?_
   refine aCB (fun w hw => Overlap_any l _ w (hrow0.up ET hw.bel) (by omega)) ?_
   refine s8 ?_
   refine kJ [(7, _)] ?_
   refine s7 ?_
   refine JR_one rfl (rr_tmp rfl) ?_
   intro w' hw
   obtain rfl : k = l.length := by omega
   exact ⟨by rw [good_e (by omega) hall], hw.bel⟩
end Go.Proofs.Ytmcpnoailbmkkaa
/- Layer 7: stones and names compared; tables. -/
namespace Go.Proofs.Ytmcpnoailbmkkaa
open Go Go.RowKit Go.Proofs
attribute [local irreducible] J JQ JL JA JD

theorem foS : Try.prog.underlying 49 = some (.struct (Try.prog.fieldsOf 49)) := by kernel_rfl
theorem foP : Try.prog.underlying 47 = some (.struct (Try.prog.fieldsOf 47)) := by kernel_rfl
theorem fnS : (Try.prog.fieldsOf 49).toList.map (fun f => (f.name != "_", f.type, f.offset)) = [(true, 3, 0), (true, 3, 1), (true, 47, 2)] := by kernel_rfl
theorem fnP : (Try.prog.fieldsOf 47).toList.map (fun f => (f.name != "_", f.type, f.offset)) = [(true, 45, 0), (true, 45, 1)] := by kernel_rfl
/-- Fields' equality, by name, type and place. -/
def eqF (d : Nat) (xs ys : Array Value) : List (Bool × TypeId × Nat) → Sem Bool
 | [] => pure true
 | (n, t, o) :: fs =>
  if n = true then do
   let a ← part t xs o
   let b ← part t ys o
   let r ← Op.equalIn d t a b
   if (!r) = true then pure false else eqF d xs ys fs
  else eqF d xs ys fs
theorem eqF_of (d : Nat) (xs ys : Array Value) (l : List Field) : Op.eqFields d xs ys l = eqF d xs ys (l.map (fun f => (f.name != "_", f.type, f.offset))) := by
 induction l with
 | nil => rfl
 | cons f l ih => simp only [Op.eqFields, List.map_cons, eqF, bne_iff_ne, ih]
theorem ein3 (d : Nat) (a b : Int) (w : World) : (Op.equalIn (d + 1) 3 (.int .i64 a) (.int .i64 b)).run Try.prog w = .ok (a == b) w := run_equalIn_int w d 3 .i64 .i64 a b Try.underlying3
theorem einF (d : Nat) (a b : Int) (w : World) : (Op.equalIn (d + 1) 45 (.int .i64 a) (.int .i64 b)).run Try.prog w = .ok (a == b) w := run_equalIn_int w d 45 .i64 .i64 a b (by kernel_rfl)
theorem pa3 (x y z u : Value) (w : World) : (part 3 #[x, y, z, u] 0).run Try.prog w = .ok x w ∧ (part 3 #[x, y, z, u] 1).run Try.prog w = .ok y w ∧ (part 47 #[x, y, z, u] 2).run Try.prog w = .ok (.agg #[z, u]) w := ⟨by kernel_rfl, by kernel_rfl, by kernel_rfl⟩
theorem paF (x y : Value) (w : World) : (part 45 #[x, y] 0).run Try.prog w = .ok x w ∧ (part 45 #[x, y] 1).run Try.prog w = .ok y w := ⟨by kernel_rfl, by kernel_rfl⟩
theorem einP (d : Nat) (a b a' b' : Int) (w : World) : (Op.equalIn (d + 2) 47 (.agg #[.int .i64 a, .int .i64 b]) (.agg #[.int .i64 a', .int .i64 b'])).run Try.prog w = .ok (a == a' && b == b') w := by
 rw [run_equalIn_struct w (d + 1) 47 _ _ foP (by kernel_rfl), eqF_of, fnP]
 cases h1 : a == a' <;> cases h2 : b == b' <;>
  simp [eqF, Sem.run_bind, (paF _ _ _).1, (paF _ _ _).2, einF, h1, h2, Result.andThen_ok, Sem.run_pure]
theorem einS (d : Nat) (a b : St) (w : World) : (Op.equalIn (d + 3) 49 (Stv a) (Stv b)).run Try.prog w = .ok (eqS a b) w := by
 obtain ⟨s1, s2, s3, s4⟩ := a
 obtain ⟨t1, t2, t3, t4⟩ := b
 unfold eqS Stv
 rw [run_equalIn_struct w (d + 2) 49 _ _ foS (by kernel_rfl), eqF_of, fnS]
 cases h1 : s1 == t1 <;> cases h2 : s2 == t2 <;> cases h3 : (s3 == t3 && s4 == t4) <;>
  simp [eqF, Sem.run_bind, (pa3 _ _ _ _ _).1, (pa3 _ _ _ _ _).2.1, (pa3 _ _ _ _ _).2.2, ein3, einP, h1, h2, h3, Result.andThen_ok, Sem.run_pure]
theorem neqS (a b : St) (w : World) : (binOp .neq 49 (Stv a) (Stv b)).run Try.prog w = .ok (.bool (!eqS a b)) w := by
 have h := einS 9997 a b w
 unfold Stv at h ⊢
 rw [run_neq_struct, h]
 rfl
theorem eqlS (a b : St) (w : World) : (binOp .eql 49 (Stv a) (Stv b)).run Try.prog w = .ok (.bool (eqS a b)) w := by
 have h := einS 9997 a b w
 unfold Stv at h ⊢
 rw [run_eql_struct, h]
 rfl
theorem foN : Try.prog.underlying 102 = some (.struct (Try.prog.fieldsOf 102)) := by kernel_rfl
theorem fnN : (Try.prog.fieldsOf 102).toList.map (fun f => (f.name != "_", f.type, f.offset)) = [(true, 3, 0), (true, 3, 1)] := by kernel_rfl
theorem pa2 (x y : Value) (w : World) : (part 3 #[x, y] 0).run Try.prog w = .ok x w ∧ (part 3 #[x, y] 1).run Try.prog w = .ok y w := ⟨by kernel_rfl, by kernel_rfl⟩
theorem neqN (a b a' b' : Int) (w : World) : (binOp .neq 102 (Sp a b) (Sp a' b')).run Try.prog w = .ok (.bool (!eqK a b a' b')) w := by
 unfold Sp eqK
 rw [run_neq_struct]
 have h : (Op.equalIn 10000 102 (.agg #[.int .i64 a, .int .i64 b]) (.agg #[.int .i64 a', .int .i64 b'])).run Try.prog w = .ok (a == a' && b == b') w := by
  rw [run_equalIn_struct w 9999 102 _ _ foN (by kernel_rfl), eqF_of, fnN]
  cases h1 : a == a' <;> cases h2 : b == b' <;>
   simp [eqF, Sem.run_bind, (pa2 _ _ _).1, (pa2 _ _ _).2, ein3, h1, h2, Result.andThen_ok, Sem.run_pure]
 rw [h]
 rfl
section
variable {n : Nat} {l : Sl} {o : Oper} {x y : Operand} {ty : TypeId}
theorem pNeqT (a b : St) (ho : o.op = .binOp .neq 49 x y ty) (hx : evl l x = some (Stv a)) (hy : evl l y = some (Stv b)) : RP Try.prog n l o (.bool (!eqS a b)) := rp2 hx hy (fun ρ h1 h2 w => by
 unfold execOp
 have h := neqS a b w
 have hg : Try.prog.eqGuardType Try.prog.depth 49 = false := by kernel_rfl
 simp only [ho, h1, h2]
 simp [eqGuard, Sem.run_bind, hg, h])
theorem pEqlT (a b : St) (ho : o.op = .binOp .eql 49 x y ty) (hx : evl l x = some (Stv a)) (hy : evl l y = some (Stv b)) : RP Try.prog n l o (.bool (eqS a b)) := rp2 hx hy (fun ρ h1 h2 w => by
 unfold execOp
 have h := eqlS a b w
 have hg : Try.prog.eqGuardType Try.prog.depth 49 = false := by kernel_rfl
 simp only [ho, h1, h2]
 simp [eqGuard, Sem.run_bind, hg, h])
theorem pNeqN (a b a' b' : Int) (ho : o.op = .binOp .neq 102 x y ty) (hx : evl l x = some (Sp a b)) (hy : evl l y = some (Sp a' b')) : RP Try.prog n l o (.bool (!eqK a b a' b')) := rp2 hx hy (fun ρ h1 h2 w => by
 unfold execOp
 have h := neqN a b a' b' w
 have hg : Try.prog.eqGuardType Try.prog.depth 102 = false := by kernel_rfl
 simp only [ho, h1, h2]
 simp [eqGuard, Sem.run_bind, hg, h])
end
instance : DecidableEq St := fun a b => if h : eqS a b = true then isTrue ((eqS_iff a b).1 h) else isFalse (fun e => h ((eqS_iff a b).2 e))
/-- Stones as elements of a map. -/
def dT (s : St) : DataW Unit := .agg [.lit (.int .i64 s.t), .lit (.int .i64 s.n), .lit (.int .i64 s.x), .lit (.int .i64 s.y)]
theorem LSt : ElL Try.prog 49 (fun s : St => Stv s) dT ⟨0, 0, 0, 0⟩ (fun _ => True) where
 zero := Zer.h
 okz := trivial
 rd := fun _ _ => rfl
 inv := fun _ x _ h => rdE_agg (l := eT x) rfl plain_agg h
def tblF (l : List St) (p : Int × Int) : Option St := lookT l p.1 p.2
theorem tbl_s {l : List St} {k : Nat} {x : St} (hk : k < l.length) (hx : l[k]'hk = x) : tblF (l.take (k + 1)) = upd (tblF (l.take k)) (x.t, x.n) x := by
 funext p
 obtain ⟨a, b⟩ := p
 unfold tblF upd
 rw [List.take_succ_eq_append_getElem hk, hx, lookT_snoc]
 dsimp only
 by_cases e : eqK x.t x.n a b = true
 ·rw [if_pos e]
  obtain ⟨rfl, rfl⟩ := (eqK_iff _ _ _ _).1 e
  rw [if_pos rfl]
 ·rw [if_neg e, if_neg (fun h => e ((eqK_iff _ _ _ _).2 (by injection h with h1 h2; exact ⟨h1.symm, h2.symm⟩)))]
set_option maxRecDepth 100000 in
set_option maxHeartbeats 4000000 in
theorem of_any (s : St) (w : World) : Calls Try.prog 48 #[Stv s] w (Back (Sp s.t s.n) w) := by
 obtain ⟨xt, xn, xx, xy⟩ := s
 refine J_enter (fun _ => False) (vs := [.agg #[.int .i64 xt, .int .i64 xn, .int .i64 xx, .int .i64 xy]]) (k := 7) (l := [(0, .agg #[.int .i64 xt, .int .i64 xn, .int .i64 xx, .int .i64 xy])]) Try.func48 rfl rfl Try.ntmps48 rfl rfl (Wd.start _) ?_
 refine s2 ?_
 refine aW (oX [_, _, _, _]) (fun b1 hb1 => ?_)
 refine aW oA (fun b2 hb2 => ?_)
 refine s8 ?_
 refine aP (rp_buildC (fun us => [us.getD 0 undef, us.getD 1 undef]) rfl rfl (fun w => by kernel_rfl)) ?_
 refine s4 ?_
 refine JR_one rfl (rr_agg (cs := [_, _]) rfl Agg.h (Siz.h (k := 2)) (by repeat constructor) (by rfl)) ?_
 intro w' hw
 exact ⟨rfl, hw.bel⟩
set_option maxRecDepth 100000 in
set_option maxHeartbeats 4000000 in
theorem table_any (l : List St) (v : Value) (w : World) (hrow : Arr 4 eT w v l) (hok : ∀ s ∈ l, W64 s.t ∧ W64 s.n) (hl9 : l.length ≤ 1000) : Calls Try.prog 47 #[v] w (Ret w (fun _ : Nat => True) (fun b => .map (some b)) (fun b => [mapK Try.prog 102 49 kN okN2 dT b l.length (tblF l)])) := by
 have hrow0 := hrow
 obtain ⟨A, cap, rfl, -, ⟨hl, -⟩, hA⟩ := hrow
 refine J_enter (fun _ => False) (vs := [.slice A l.length cap]) (k := 18) (l := [(0, .slice A l.length cap)]) Try.func47 rfl rfl Try.ntmps47 rfl rfl (Wd.start _) ?_
 refine s7 ?_
 refine aW (ow_makeK (kt := 102) (e := 49) (kv := kN) (ok := okN2) (ed := dT) rfl rfl rfl (fun _ => by kernel_rfl)) (fun b6 hb6 => ?_)
 refine s12 ?_
 refine xL (T := Nat) (fun k => k ≤ l.length) (fun k => [(3, .map (some b6)), (7, .slice A l.length cap), (8, .int .i64 (l.length : Nat)), (9, .int .i64 (k : Nat))]) (fun k => [mapK Try.prog 102 49 kN okN2 dT b6 k (tblF (l.take k))]) (fun k => l.length - k) 0 (Nat.zero_le _) ?_ (hH := by (try dsimp only); rw [show tblF (l.take 0) = (fun _ => none) from rfl]; repeat constructor)
 rintro k hk
 refine s3 ?_
 refine JL_dec (fun h10 => ?_) (fun h10 => ?_)
 ·refine s9 ?_
  have hltx : k < l.length := by omega
  obtain ⟨bx, qx, rfl, hh⟩ := hA (by intro e; subst e; simp at hltx)
  obtain ⟨⟨xt, xn, xx, xy⟩, hx⟩ : ∃ y, l[k]'hltx = y := ⟨_, rfl⟩
  have hmx : (⟨xt, xn, xx, xy⟩ : St) ∈ l := by rw [← hx]; exact List.getElem_mem _
  refine s2 ?_
  refine aV (vHoldA (cs := [.int .i64 xt, .int .i64 xn, .int .i64 xx, .int .i64 xy]) ET rfl rfl (fun h => h) hh hltx (by rw [hx]; rfl)) ?_
  refine aW oA (fun b5 hb5 => ?_)
  refine s3 ?_
  refine xD [0, 1, 3, 2, 4] [1, 3] ?_
  refine s3 ?_
  refine dCB rfl (fun w hw => of_any (⟨xt, xn, xx, xy⟩ : St) w) ?_
  refine dW0 rfl (ow_putK KNR LSt (xt, xn) (⟨xt, xn, xx, xy⟩ : St) Und.h rfl rfl rfl rfl rfl rfl rfl (by repeat constructor) (hok _ hmx) trivial (by omega) (Nat.le_refl _)) ?_
  refine s3 ?_
  refine kJ [(3, _), (7, _), (8, _), (9, _)] ?_
  refine s4 ?_
  have hs := tbl_s hltx hx
  dsimp only at hs
  exact xR (k + 1) (by omega) (by omega) (hl := ⟨rfl, rfl, rfl, (congrArg some (by go_num)), trivial⟩) (hH := by (try dsimp only); rw [hs]; repeat constructor)
 ·refine s10 ?_
  obtain rfl : k = l.length := by omega
  rw [List.take_length]
  refine kJ [(3, _)] ?_
  refine s6 ?_
  refine JR_one rfl (rr_tmp rfl) ?_
  intro w' hw
  exact ⟨b6, trivial, rfl, hw.pick (by repeat constructor)⟩
set_option maxRecDepth 100000 in
set_option maxHeartbeats 4000000 in
theorem EqualT (l m : List St) (v u : Value) (w : World) (hrow : Arr 4 eT w v l) (hrow2 : Arr 4 eT w u m) : Calls Try.prog 49 #[v, u] w (Back (.bool (decide (l = m))) w) := by
 obtain ⟨A, cap, rfl, -, ⟨hl, -⟩, hA⟩ := hrow
 obtain ⟨A2, cap2, rfl, -, ⟨hl2, -⟩, hA2⟩ := hrow2
 refine J_enter (fun _ => False) (vs := [.slice A l.length cap, .slice A2 m.length cap2]) (k := 24) (l := [(0, .slice A l.length cap), (1, .slice A2 m.length cap2)]) Try.func49 rfl rfl Try.ntmps49 rfl rfl (Wd.start _) ?_
 refine s13 ?_
 refine JL_dec (fun h10 => ?_) (fun h10 => ?_)
 ·refine s4 ?_
  refine kJ [] ?_
  refine s6 ?_
  refine JR_one rfl (rr_tmp rfl) ?_
  intro w' hw
  exact ⟨by rw [decide_eq_false (fun h => by rw [h] at h10; exact h10 rfl)], hw.bel⟩
 ·refine s7 ?_
  refine kJ [(0, _), (1, _)] ?_
  refine s7 ?_
  refine xL (T := Nat) (fun k => k ≤ l.length ∧ ∀ j (hj : j < l.length) (hj2 : j < m.length), j < k → l[j]'hj = m[j]'hj2) (fun k => [(0, .slice A l.length cap), (1, .slice A2 m.length cap2), (12, .int .i64 (l.length : Nat)), (13, .int .i64 (k : Nat))]) (fun k => []) (fun k => l.length - k) 0 ⟨Nat.zero_le _, fun j _ _ h => absurd h (Nat.not_lt_zero _)⟩ ?_
  rintro k ⟨hk, hall⟩
  refine s3 ?_
  refine JL_dec (fun h14 => ?_) (fun h14 => ?_)
  ·refine s9 ?_
   have hltx : k < l.length := by omega
   obtain ⟨bx, qx, rfl, hh⟩ := hA (by intro e; subst e; simp at hltx)
   obtain ⟨⟨xt, xn, xx, xy⟩, hx⟩ : ∃ y, l[k]'hltx = y := ⟨_, rfl⟩
   have hmx : (⟨xt, xn, xx, xy⟩ : St) ∈ l := by rw [← hx]; exact List.getElem_mem _
   have hlty : k < m.length := by omega
   obtain ⟨bky, qy, rfl, hh2⟩ := hA2 (by intro e; subst e; simp at hlty)
   obtain ⟨⟨yt, yn, yx, yy⟩, hy⟩ : ∃ y, m[k]'hlty = y := ⟨_, rfl⟩
   have hmy : (⟨yt, yn, yx, yy⟩ : St) ∈ m := by rw [← hy]; exact List.getElem_mem _
   refine s6 ?_
   refine xD [0, 1, 2, 3, 4, 5, 6, 7, 8] [3, 7] ?_
   refine s3 ?_
   refine dL rfl (vHoldA (cs := [.int .i64 xt, .int .i64 xn, .int .i64 xx, .int .i64 xy]) ET rfl rfl (fun h => h) hh hltx (by rw [hx]; rfl)) ?_
   refine s3 ?_
   refine dL rfl (vHoldA (cs := [.int .i64 yt, .int .i64 yn, .int .i64 yx, .int .i64 yy]) ET rfl rfl (fun h => h) hh2 hlty (by rw [hy]; rfl)) ?_
   refine dP rfl (pNeqT (⟨xt, xn, xx, xy⟩ : St) (⟨yt, yn, yx, yy⟩ : St) rfl rfl rfl) ?_
   refine dBool (fun h24 => ?_) (fun h24 => ?_)
   ·refine dO [] ?_
    refine s4 ?_
    refine kJ [] ?_
    refine s10 ?_
    refine JR_one rfl (rr_tmp rfl) ?_
    intro w' hw
    exact ⟨by rw [decide_eq_false (fun h => by subst h; rw [hx] at hy; cases hy; rw [(eqS_iff _ _).2 rfl] at h24; cases h24)], hw.bel⟩
   ·refine dO [] ?_
    refine s6 ?_
    refine kJ [(0, _), (1, _), (12, _), (13, _)] ?_
    refine s4 ?_
    have hn : ∀ j (hj : j < l.length) (hj2 : j < m.length), j < k + 1 → l[j]'hj = m[j]'hj2 := fun j hj hj2 hjk => by
     rcases Nat.lt_or_ge j k with h | h
     ·exact hall j hj hj2 h
     ·obtain rfl : j = k := by omega
      rw [hx, hy]; exact (eqS_iff _ _).1 (by cases h0 : eqS (⟨xt, xn, xx, xy⟩ : St) (⟨yt, yn, yx, yy⟩ : St) with | true => rfl | false => rw [h0] at h24; cases h24)
    exact xR (k + 1) ⟨by omega, hn⟩ (by omega) (hl := ⟨rfl, rfl, rfl, (congrArg some (by go_num)), trivial⟩)
  ·refine s10 ?_
   refine kJ [] ?_
   refine s5 ?_
   refine JR_one rfl (rr_tmp rfl) ?_
   intro w' hw
   obtain rfl : k = l.length := by omega
   exact ⟨by rw [decide_eq_true (List.ext_getElem (by omega) (fun j h1 h2 => hall j h1 h2 h1))], hw.bel⟩
end Go.Proofs.Ytmcpnoailbmkkaa
/- The walk by live slots: two items as one; rows of bytes: strings.Builder's operations. Over any program. -/
namespace Go.Proofs.Ytmcpnoailbmkkaa
open Go Go.RowKit Go.Proofs
theorem JL_unite {P : Program} {n : Nat} {B : Bs} {Q : Exit → Act → World → Prop} {ops : Array Oper} {rest : List Oper} {l : Sl} {H H2 H1 : List It} (A C : It) (h : JL P n B ops Q rest l (unI C A :: H1)) (r1 : Rm A H H2 := by repeat constructor) (r2 : Rm C H2 H1 := by repeat constructor) (hA : A.ro = false := by rfl) (hC : C.ro = false := by rfl) : JL P n B ops Q rest l H := fun a w ha hw => h a w ha (((Rm.there A r2).pk (r1.pk hw)).unite hC hA)
section
variable {P : Program} {n : Nat} {B : Bs} {l : Sl} {H H' : List It} {o : Oper}
theorem OpW.of_val0 {m : Option It} {T : Type} {φ : T → Prop} {G : T → List It} (hd : o.dst = none) (h : ∀ a w, Fr n l a → Wd B H w → ∃ t w' v, φ t ∧ (execOp a.eval o).run P w = .ok (.value v) w' ∧ Wd B (G t) w' ∧ Rl m w w') : OpW P n B m l H o φ (fun _ => l) G := fun a w K Q ha hw k => by
 obtain ⟨t, w', v, h1, h2, h3, h4⟩ := h a w ha hw
 unfold Oper.wp
 rw [h2]
 show K (a.put o.dst v) w'
 exact k t _ _ h1 (ha.putN o hd _) h3 h4
/-- A store into an element of a row of our own. -/
theorem oStE {α : Type} {k : Nat} {enc : α → List Value} (E : Enc k enc) {t ty : TypeId} {x y : Operand} {b j i m c kk : Nat} {L : List α} {v : Value} (cs : List Value) (r : α) [z : Siz P t kk] (hj : j < L.length) (ho : o.op = .store t x y := by rfl) (hd : o.dst = none := by rfl) (hx : evl l x = some (.pointer (some ⟨b, 0 + j * k + i, none⟩)) := by rfl) (hy : evl l y = some v := by rfl) (hcs : v.cells = cs.toArray := by rfl) (hkk : cs.length = kk := by rfl) (h1 : cs.all (·.oneCell') = true := by rfl)
  (hat : At (ownB ty k (some ⟨b, 0, none⟩) m c (L.flatMap enc)) (ownB ty k (some ⟨b, 0, none⟩) m c ((L.set j r).flatMap enc)) H H' := by repeat constructor) (hi : i + cs.length ≤ k := by decide) (hr : enc r = (enc (L[j]'hj)).take i ++ cs ++ (enc (L[j]'hj)).drop (i + cs.length) := by rfl) :
  OpW P n B (some (ownB ty k (some ⟨b, 0, none⟩) m c (L.flatMap enc))) l H o (fun _ : Unit => True) (fun _ => l) (fun _ => H') := ow_storeE E r ho hd hx hy hcs (by rw [hkk]; exact z.h) h1 hat hj hi hr
theorem zero_cells {z : Value} {zs : List Value} (hz : z.cells = zs.toArray) (h0 : 0 < zs.length) (h1 : zs.all (·.oneCell') = true) (m : Nat) : (Builtin.zeroCells z.cells m).toList.length = m * zs.length ∧ ∀ u ∈ (Builtin.zeroCells z.cells m).toList, u.oneCell' = true := by
 rw [hz]
 refine ⟨by simp [Builtin.zeroCells], fun u hu => ?_⟩
 simp only [Builtin.zeroCells, Array.toList_map, Array.toList_range, List.mem_map, List.mem_range, List.size_toArray] at hu
 obtain ⟨i, -, rfl⟩ := hu
 have hlt : i % zs.length < zs.length := Nat.mod_lt _ h0
 have e : zs.toArray[i % zs.length]! = zs[i % zs.length]'hlt := by rw [getElem!_pos zs.toArray _ (by simpa using hlt)]; simp
 rw [e]
 exact List.all_eq_true.1 h1 _ (List.getElem_mem _)
/-- Truth values compared. -/
theorem pEqlB {t ty : TypeId} {x y : Operand} {a b : Bool} [u : Und P t .bool] (ho : o.op = .binOp .eql t x y ty) (hx : evl l x = some (.bool a)) (hy : evl l y = some (.bool b)) : RP P n l o (.bool (decide (a = b))) := rp2 hx hy (fun ρ h1 h2 w => by
 have e : decide (a = b) = (a == b) := by cases a <;> cases b <;> rfl
 rw [e]
 unfold execOp
 simp only [ho, h1, h2]
 have hu := u.h
 go_simp)
/-- A slice held against nil. -/
theorem pSlNil {t e ty : TypeId} {x : Operand} {A : Option Addr} {m c : Nat} [u : Und P t (.slice e)] (ho : o.op = .binOp .eql t x (.const (.slice none 0 0)) ty) (hx : evl l x = some (.slice A m c)) : RP P n l o (.bool A.isNone) := rp2 hx (y := .const (.slice none 0 0)) rfl (fun ρ h1 h2 w => by
 have hr := Lib.run_eql_slice_nil (P := P) w t e A m c 0 0 u.h
 unfold execOp
 simp [ho, h1, h2, eqGuard, hr])
/-- clear(s[i:]) of a row of our own, of which i elements are looked at from now on. -/
theorem oClr {α : Type} {k : Nat} {enc : α → List Value} (E : Enc k enc) {t e : TypeId} {x : Operand} {g c i m : Nat} (L : List α) {z : Value} (zs : List Value) [u : Und P t (.slice e)] [zr : Zer P e z] (hm0 : m = L.length) (hi : i ≤ L.length) (ho : o.op = .call { callee := .builtin .clear, args := #[x], argTypes := #[t] } := by rfl) (hd : o.dst = none := by rfl)
  (hx : evl l x = some (.slice (if c = i then some ⟨g, 0, none⟩ else (some ⟨g, 0, none⟩ : Option Addr).map (·.add (i * k))) (m - i) (c - i)) := by rfl) (hz : z.cells = zs.toArray := by rfl) (hzk : zs.length = k := by rfl) (hk : 0 < k := by decide) (h1 : zs.all (·.oneCell') = true := by rfl)
  (hat : At (ownB e k (some ⟨g, 0, none⟩) m c (L.flatMap enc)) (ownB e k (some ⟨g, 0, none⟩) i c ((L.take i).flatMap enc)) H H' := by repeat constructor) :
  OpW P n B (some (ownB e k (some ⟨g, 0, none⟩) m c (L.flatMap enc))) l H o (fun _ : Unit => True) (fun _ => l) (fun _ => H') := by
 subst hm0
 exact
 OpW.of_val0 hd (fun a w ha hw => by
  have hown : w.ownsRow 0 e k (.slice (some ⟨g, 0, none⟩) L.length c) L.length (L.flatMap enc) := (hw.ok _ hat.mem).1
  obtain ⟨q1, q2⟩ := hown
  rcases q2 with ⟨e0, -⟩ | ⟨g', cap, cur, e0, q3, q4, q5, q6, q7, q8⟩
  ·cases e0
  injection e0 with e1 e2 e3
  injection e1 with e1
  injection e1 with e1 _ _
  subst e1 e3
  have hlen := flat_len E L
  have hic : i * k ≤ L.length * k := Nat.mul_le_mul_right k hi
  have hnc : L.length * k ≤ c * k := Nat.mul_le_mul_right k q5
  have htk : ∀ cur' : Array Value, cur'.size = cur.size → (∀ q, q < i * k → cur'[q]? = cur[q]?) → cur'.toList.take (i * k) = (L.take i).flatMap enc := by
   intro cur' hs hc
   refine List.ext_getElem? (fun q => ?_)
   have hl2 := flat_len E (L.take i)
   rw [List.length_take, Nat.min_eq_left hi] at hl2
   rw [List.getElem?_take]
   by_cases hq : q < i * k
   ·rw [if_pos hq, Array.getElem?_toList, hc q hq]
    have h2 : (L.flatMap enc)[q]? = cur[q]? := by rw [← q8, List.getElem?_take, if_pos (by omega), Array.getElem?_toList]
    rw [← h2]
    conv => lhs; rw [← List.take_append_drop i L, List.flatMap_append]
    rw [List.getElem?_append_left (by omega)]
   ·rw [if_neg hq, List.getElem?_eq_none (by omega)]
  have hinv : ∀ W, (execOp a.eval o).run P W = ((Builtin.clear_ #[t] o.type #[.slice (if c = i then some ⟨g, 0, none⟩ else (some ⟨g, 0, none⟩ : Option Addr).map (·.add (i * k))) (L.length - i) (c - i)]).run P W).andThen fun v w' => .ok (.value v) w' := fun W => by
   unfold execOp
   simp only [ho, resolve, invoke, builtin, Sem.run_bind, Sem.run_pure, Result.andThen_ok, List.map_toArray, List.map_cons, List.map_nil, ha.ev hx]
  by_cases h0 : L.length - i = 0
  ·have hr : (Builtin.clear_ #[t] o.type #[.slice (if c = i then some ⟨g, 0, none⟩ else (some ⟨g, 0, none⟩ : Option Addr).map (·.add (i * k))) (L.length - i) (c - i)]).run P w = .ok (.tuple #[]) w := by
    rw [h0]
    generalize (if c = i then some ⟨g, 0, none⟩ else (some ⟨g, 0, none⟩ : Option Addr).map (·.add (i * k))) = Y
    cases Y <;> simp [Builtin.clear_, run_underlying u.h]
   refine ⟨(), w, .tuple #[], trivial, by rw [hinv, hr]; rfl, hw.turn hat (fun h => h) ⟨?_, .inr ⟨g, c, cur, rfl, Nat.zero_le _, q4, by omega, q6, q7, htk cur rfl (fun _ _ => rfl)⟩⟩ (fun b hb => hb), ⟨rfl, rfl, rfl, Nat.le_refl _, fun _ _ _ => rfl⟩⟩
   rw [flat_len E, List.length_take, Nat.min_eq_left hi]
  ·have hci : ¬ c = i := by omega
   obtain ⟨z1, z2⟩ := zero_cells hz (by omega) h1 (L.length - i)
   rw [hzk] at z1
   have hmul : i * k + (L.length - i) * k = L.length * k := by rw [← Nat.add_mul]; congr 1; omega
   have hst := run_storeCells_at (P := P) g (i * k) e (Builtin.zeroCells z.cells (L.length - i)).toList 0 cur w q4 (by rw [q7]; omega) z2
   rw [Nat.add_zero] at hst
   obtain ⟨m, hm⟩ : ∃ m, L.length - i = m + 1 := ⟨L.length - i - 1, by omega⟩
   have hr : (Builtin.clear_ #[t] o.type #[.slice (if c = i then some ⟨g, 0, none⟩ else (some ⟨g, 0, none⟩ : Option Addr).map (·.add (i * k))) (L.length - i) (c - i)]).run P w = .ok (.tuple #[]) (w.setRow g (cur.toList.take (i * k) ++ (Builtin.zeroCells z.cells (L.length - i)).toList ++ cur.toList.drop (i * k + (Builtin.zeroCells z.cells (L.length - i)).toList.length)).toArray) := by
    rw [if_neg hci]
    show (Builtin.clear_ #[t] o.type #[.slice (some (Addr.add _ _)) (L.length - i) (c - i)]).run P w = _
    rw [Addr.add_mid, Nat.zero_add, hm]
    rw [hm] at hst
    simp [Builtin.clear_, run_underlying u.h, zr.h, hst]
   have hch : Chg (ownB e k (some ⟨g, 0, none⟩) L.length c (L.flatMap enc)) w (w.setRow g (cur.toList.take (i * k) ++ (Builtin.zeroCells z.cells (L.length - i)).toList ++ cur.toList.drop (i * k + (Builtin.zeroCells z.cells (L.length - i)).toList.length)).toArray) := ⟨rfl, rfl, rfl, by simp [World.setRow], fun k _ hk => setRow_other w g k _ (fun e => hk (by subst e; rfl))⟩
   refine ⟨(), _, .tuple #[], trivial, by rw [hinv, hr]; rfl, hw.chg hat rfl rfl hch ⟨?_, .inr ⟨g, c, _, rfl, Nat.zero_le _, setRow_heap w g _ _ e _ q4, by omega, q6, ?_, htk _ ?_ ?_⟩⟩ (fun b hb => ⟨.inl hb, ?_⟩), hch⟩
   ·rw [flat_len E, List.length_take, Nat.min_eq_left hi]
   ·simp only [List.size_toArray, List.length_append, List.length_take, List.length_drop, z1, Array.length_toList]; omega
   ·simp only [List.size_toArray, List.length_append, List.length_take, List.length_drop, z1, Array.length_toList]; omega
   ·intro q hq
    rw [List.getElem?_toArray, List.append_assoc, List.getElem?_append_left (by rw [List.length_take, Array.length_toList]; omega), List.getElem?_take, if_pos hq, Array.getElem?_toList]
   ·have hb' : (Value.slice (some ⟨g, 0, none⟩) i c).ownBlock = some b := hb
    injection hb' with hb'
    subst hb'
    have := (Array.getElem?_eq_some_iff.1 q4).1
    simpa [World.setRow] using this)
/-! Rows of bytes. -/
theorem ba_sz (s : ByteArray) : s.data.toList.length = s.size := by unfold ByteArray.size; rw [Array.length_toList]
/-- A row of bytes of our own. -/
abbrev bytB (e : TypeId) (A : Option Addr) (c : Nat) (s : ByteArray) : It := ownB e 1 A s.size c (Lib.strCells s)
theorem strCells_app (s t : ByteArray) : Lib.strCells (s ++ t) = Lib.strCells s ++ Lib.strCells t := by
 unfold Lib.strCells; rw [ByteArray.data_append, Array.toList_append, List.map_append]
theorem run_appStr {w : World} {base : Nat} {t u ty e : TypeId} (ht : P.underlying t = some (.slice e)) (hu : P.underlying u = some .string) (hinf : (P.info? e).map (fun i => (i.zero, i.size, i.bytes)) = some (some (.int .u8 0), 1, 1)) {A : Option Addr} {m c : Nat} {xs : List Value} (hown : w.ownsRow base e 1 (.slice A m c) m xs) (s : ByteArray) (hl : m + s.size ≤ 1000000000) (hbase : base ≤ w.heap.size) :
  ∃ A' c' w', (Builtin.append_ #[t, u] ty #[.slice A m c, .string s]).run P w = .ok (.slice A' (m + s.size) c') w' ∧ w'.ownsRow 0 e 1 (.slice A' (m + s.size) c') (m + s.size) (xs ++ Lib.strCells s) ∧ w.grownBy w' (Value.slice A m c).ownBlock ∧ ((Value.slice A' (m + s.size) c').ownBlock = (Value.slice A m c).ownBlock ∨ ∀ b, (Value.slice A' (m + s.size) c').ownBlock = some b → w.heap.size ≤ b) := by
 obtain ⟨i, hi, hz, hs1, hb1⟩ := info_parts hinf
 have weak : ∀ {v' : Value} {n : Nat} {ys : List Value} {w' : World} {b0 : Nat}, w'.ownsRow b0 e 1 v' n ys → w'.ownsRow 0 e 1 v' n ys := fun h => ⟨h.1, h.2.imp_right (fun ⟨g, cap, cur, h1, _, h3⟩ => ⟨g, cap, cur, h1, Nat.zero_le _, h3⟩)⟩
 have form : ∀ {v' : Value} {n : Nat} {ys : List Value} {w' : World} {b0 : Nat}, w'.ownsRow b0 e 1 v' n ys → ∃ A' c', v' = .slice A' n c' := fun h => by
  rcases h.2 with ⟨rfl, rfl⟩ | ⟨g, cap, cur, rfl, -⟩
  ·exact ⟨_, _, rfl⟩
  ·exact ⟨_, _, rfl⟩
 rcases hown.2 with ⟨e1, e2⟩ | ⟨g, cap, cur, e1, hbg, hg, hnc, hcm, hcs, htake⟩
 ·obtain ⟨v', w', h1, h2, h3, h4⟩ := Lib.run_append_own_string (P := P) (ty := ty) w w.heap.size t u e i ht hu hi hz hs1 hb1 (.slice A m c) m xs ⟨hown.1, .inl ⟨e1, e2⟩⟩ s (by unfold maxLen; omega) (by omega) (Nat.le_refl _)
  obtain ⟨A', c', rfl⟩ := form h2
  exact ⟨A', c', w', h1, weak h2, h3, .inr (fun b hb => by
   rcases h2.2 with ⟨e3, -⟩ | ⟨g, cap, cur, e3, h5, -⟩
   ·rw [e3] at hb; cases hb
   ·rw [e3] at hb; injection hb with hb; subst hb; exact h5)⟩
 ·injection e1 with e1 e2 e3
  subst e1 e3
  obtain ⟨v', w', h1, h2, h3, h4⟩ := Lib.run_append_own_string (P := P) (ty := ty) w base t u e i ht hu hi hz hs1 hb1 (.slice (some ⟨g, 0, none⟩) m c) m xs hown s (by unfold maxLen; omega) (by omega) hbase
  obtain ⟨A', c', rfl⟩ := form h2
  refine ⟨A', c', w', h1, weak h2, h3, ?_⟩
  by_cases hroom : m + s.size ≤ c
  ·have hr := Lib.run_append_room_string (P := P) (ty := ty) w t u e i ht hu hi hs1 g m c cur hg s hroom (by omega)
   rw [h1] at hr
   injection hr with hr
   injection hr with hr
   rw [hr]; exact .inl rfl
  ·have hxl : xs.length = m := by simpa using hown.1
   have holds : ∀ j u, xs[j]? = some u → w.cell? ((⟨g, 0, none⟩ : Addr).add j) = some u := hown.cells (g := g) rfl
   have hr := Lib.run_append_grow_string (P := P) (ty := ty) w t u e i (.int .u8 0) ht hu hi hz ⟨g, 0, none⟩ m c xs (by rw [hs1]; simpa using hxl) holds s (by omega) (by omega) (by rw [hb1]; exact growslice_fits (by omega) (by unfold maxLen at hcm; omega))
   rw [h1] at hr
   injection hr with hr
   injection hr with hr
   rw [hr]
   exact .inr (fun b hb => by injection hb with hb; exact Nat.le_of_eq hb)
/-- append(s, t...) of a string's bytes. -/
theorem oAppStr {sl st e : TypeId} {d : Nat} {x y : Operand} {A : Option Addr} {c : Nat} (s t : ByteArray) {G : Option Addr → Nat → List It} [u : Und P sl (.slice e)] [us : Und P st .string] [i : Inf P e (.int .u8 0) 1 1] (hl : s.size + t.size ≤ 1000000000) (ho : o.op = .call { callee := .builtin .append, args := #[x, y], argTypes := #[sl, st] } := by rfl) (hd : o.dst = some d := by rfl) (hn : Nat.ble n d = false := by rfl)
  (hx : evl l x = some (.slice A s.size c) := by rfl) (hy : evl l y = some (.string t) := by rfl) (hat : ∀ A' c', At (bytB e A c s) (bytB e A' c' (s ++ t)) H (G A' c') := by intro A c; repeat constructor) : OpS P n B (some (bytB e A c s)) l H o (fun A' c' => (d, .slice A' (s ++ t).size c') :: l) G :=
 OpW.of_run (T := Option Addr × Nat) (φ := fun _ => True) (G := fun t => G t.1 t.2) hd hn (V := fun q => .slice q.1 (s ++ t).size q.2) (fun a1 w ha hw => by
  have hown : w.ownsRow 0 e 1 (.slice A s.size c) s.size (Lib.strCells s) := (hw.ok _ (hat none 0).mem).1
  obtain ⟨A', c', w', h1, h2, h3, h4⟩ := run_appStr (ty := o.type) u.h us.h i.h hown t hl (Nat.zero_le _)
  rw [← ByteArray.size_append] at h1 h2 h4
  rw [← strCells_app] at h2
  have hc : Chg (bytB e A c s) w w' := ⟨h3.os, h3.tape, h3.output, h3.size, fun b hb hnb => h3.block b hb (fun e => hnb e.symm)⟩
  refine ⟨(A', c'), w', trivial, ?_, hw.chg (hat A' c') rfl rfl hc h2 (fun b hb => ?_), hc⟩
  ·unfold execOp
   simp only [ho, resolve, invoke, builtin, Sem.run_bind, Sem.run_pure, Result.andThen_ok, List.map_toArray, List.map_cons, List.map_nil, ha.ev hx, ha.ev hy, h1]
  ·have hb' : (Value.slice A' (s ++ t).size c').ownBlock = some b := hb
   refine ⟨?_, (World.ownsRow.lt h2 b hb').2⟩
   rcases h4 with h4 | h4
   ·rw [hb'] at h4; exact .inl h4.symm
   ·exact .inr (h4 b hb'))
/-- The data of a slice. -/
theorem pSliceData {t : TypeId} {x : Operand} {A : Option Addr} {m c : Nat} (hc : A = none ∨ c ≠ 0) (ho : o.op = .call { callee := .builtin .unsafeSliceData, args := #[x], argTypes := #[t] } := by rfl) (hx : evl l x = some (.slice A m c) := by rfl) : RP P n l o (.pointer A) := rp1 hx (fun ρ h1 w => by
 have hr : (Builtin.unsafeSliceData_ #[t] o.type #[.slice A m c]).run P w = .ok (.pointer A) w := by
  cases A with
  | none => exact Lib.run_unsafeSliceData_nil w _ _ _ _
  | some a => exact Lib.run_unsafeSliceData_row w _ _ _ _ _ (hc.resolve_left (by simp))
 unfold execOp
 simp only [ho, resolve, invoke, builtin, Sem.run_bind, Sem.run_pure, Result.andThen_ok, List.map_toArray, List.map_cons, List.map_nil, h1, hr])
theorem pCap {t e : TypeId} {x : Operand} {A : Option Addr} {m c : Nat} [u : Und P t (.slice e)] (ho : o.op = .call { callee := .builtin .cap, args := #[x], argTypes := #[t] } := by rfl) (hx : evl l x = some (.slice A m c) := by rfl) : RP P n l o (.int .i64 (c : Nat)) := rp1 hx (fun ρ h1 w => by
 have hr : (Builtin.cap_ #[t] o.type #[.slice A m c]).run P w = .ok (.int .i64 (c : Nat)) w := by simp [Builtin.cap_, run_underlying u.h, goInt]
 unfold execOp
 simp only [ho, resolve, invoke, builtin, Sem.run_bind, Sem.run_pure, Result.andThen_ok, List.map_toArray, List.map_cons, List.map_nil, h1, hr])
theorem pCopy0 {t e : TypeId} {x y : Operand} {A Y : Option Addr} {m c m' c' : Nat} [u : Und P t (.slice e)] (hs : (P.info? e).map (·.size) = some 1) (hm : Nat.min m' m = 0) (ho : o.op = .call { callee := .builtin .copy, args := #[x, y], argTypes := #[t, t] } := by rfl) (hx : evl l x = some (.slice A m c) := by rfl) (hy : evl l y = some (.slice Y m' c') := by rfl) : RP P n l o (.int .i64 0) := rp2 hx hy (fun ρ h1 h2 w => by
 have hr := run_copy_none w t t o.type e A Y m c m' c' u.h hs hm
 unfold execOp
 simp only [ho, resolve, invoke, builtin, Sem.run_bind, Sem.run_pure, Result.andThen_ok, List.map_toArray, List.map_cons, List.map_nil, h1, h2, hr]
 rfl)
/-- A string over a row of bytes of our own, which nobody writes any more. -/
theorem oUStr {pt it e : TypeId} {d : Nat} {x y : Operand} {A : Option Addr} {c : Nat} (s : ByteArray) {H1 : List It} [u : Und P pt (.pointer e)] (hc1 : P.cellsOf e = 1) (ho : o.op = .call { callee := .builtin .unsafeString, args := #[x, y], argTypes := #[pt, it] } := by rfl) (hd : o.dst = some d := by rfl) (hn : Nat.ble n d = false := by rfl) (hx : evl l x = some (.pointer A) := by rfl) (hy : evl l y = some (.int .i64 (s.size : Nat)) := by rfl) (hs : A = none → s.size = 0)
  (rm : Rm (bytB e A c s) H H1 := by repeat constructor) : OpW P n B (some (bytB e A c s)) l H o (fun _ : Unit => True) (fun _ => (d, .string s) :: l) (fun _ => H1) :=
 OpW.of_run hd hn (V := fun _ => .string s) (fun a1 w ha hw => by
  have hown : w.ownsRow 0 e 1 (.slice A s.size c) s.size (Lib.strCells s) := (hw.ok _ rm.mem).1
  have hrun : ∀ w2 v, (Builtin.unsafeString_ #[pt, it] o.type #[.pointer A, .int .i64 (s.size : Nat)]).run P w = .ok v w2 → (execOp a1.eval o).run P w = .ok (.value v) w2 := fun w2 v hr => by
   unfold execOp
   simp only [ho, resolve, invoke, builtin, Sem.run_bind, Sem.run_pure, Result.andThen_ok, List.map_toArray, List.map_cons, List.map_nil, ha.ev hx, ha.ev hy, hr]
  have hdrop : Wd B H1 w := ⟨hw.os, hw.tape, hw.output, hw.size, hw.block, fun C hC => hw.ok C (rm.sub C hC), (rm.sep (R := sepR) sepR_symm hw.sep).1⟩
  by_cases h0 : s.size = 0
  ·have hse : s = ByteArray.empty := by
    rcases s with ⟨a⟩
    have : a.size = 0 := h0
    rw [Array.size_eq_zero_iff] at this; subst this; rfl
   refine ⟨(), w, trivial, hrun w _ ?_, hdrop, ⟨rfl, rfl, rfl, Nat.le_refl _, fun _ _ _ => rfl⟩⟩
   subst hse
   cases A <;> rfl
  ·obtain ⟨a, rfl⟩ : ∃ a, A = some a := by
    cases A with
    | none => exact absurd (hs rfl) h0
    | some a => exact ⟨a, rfl⟩
   rcases hown.2 with ⟨e1, -⟩ | ⟨g, cap, cur, e1, -, hg, hnc, hcm, hcs, htake⟩
   ·cases e1
   injection e1 with e1 e2 e3
   injection e1 with e1
   subst e1 e3
   have hl := ba_sz s
   have hcell : ∀ j x, s.data.toList[j]? = some x → w.cell? ((⟨g, 0, none⟩ : Addr).add j) = some (.int .u8 x.toNat) := fun j x hx => hown.cells (g := g) rfl j _ (by unfold Lib.strCells; rw [List.getElem?_map, hx]; rfl)
   have hr := Lib.run_unsafeString_row (P := P) w pt it o.type e u.h hc1 g cur.size (by simp [World.shape?, hg]) s.data.toList (by intro e; rw [e] at hl; simp at hl; omega) (by omega) (by unfold maxLen at hcm; omega) hcell
   rw [hl] at hr
   have hfz : ∀ b, b ≠ g → (w.freeze ⟨g, 0, none⟩ s.size).heap[b]? = w.heap[b]? := fun b hb => by
    unfold World.freeze; rw [if_neg h0]
    show (w.heap.modify g _)[b]? = _
    rw [Array.getElem?_modify, if_neg (fun e => hb e.symm)]
   have hch : Chg (bytB e (some ⟨g, 0, none⟩) c s) w (w.freeze ⟨g, 0, none⟩ s.size) := by
    refine ⟨?_, ?_, ?_, ?_, fun b _ hnb => hfz b (fun e => hnb (by subst e; rfl))⟩ <;> unfold World.freeze <;> rw [if_neg h0]
    show w.heap.size ≤ (w.heap.modify g _).size
    rw [Array.size_modify]; exact Nat.le_refl _
   refine ⟨(), _, trivial, hrun _ _ (by simpa using hr), ?_, hch⟩
   have hsep := (rm.sep (R := sepR) sepR_symm hw.sep)
   refine ⟨hch.os.trans hw.os, hch.tape.trans hw.tape, hch.output.trans hw.output, Nat.le_trans hw.size hch.size, fun b h1 h2 => ?_, fun C hC => ?_, hsep.1⟩
   ·rw [hfz b (fun e => ?_)]; exact hw.block b h1 h2
    subst e
    rcases ((hw.ok _ rm.mem).2 b rfl).1 with h | h | h
    ·cases h
    ·exact h2 h
    ·omega
   ·have hC' := hw.ok C (rm.sub C hC)
    have hne : ∀ b, C.foot b → b ≠ g := fun b hb e => by
     subst e
     rcases hsep.2 C hC with ⟨h, -⟩ | h
     ·cases h
     ·exact h b rfl hb
    exact ⟨C.st _ _ (fun b hb => hfz b (hne b hb)) hC'.1, fun b hb => ⟨(hC'.2 b hb).1, Nat.lt_of_lt_of_le (hC'.2 b hb).2 hch.size⟩⟩)
/-- internal/bytealg.MakeNoZero. -/
theorem oMkNZ {t e : TypeId} {d f k : Nat} {x : Operand} {ps ts : Array TypeId} [u : Und P t (.slice e)] (hk : k ≤ 1000000000) (hf : ∀ args w, (callFunc f args).run P w = ((Extern.BytealgMakeNoZero.makeNoZero ps #[t] args).run P w).andThen fun v w' => .ok (.value v) w') (ho : o.op = .call { callee := .value (.func f), args := #[x], argTypes := ts } := by rfl) (hd : o.dst = some d := by rfl) (hn : Nat.ble n d = false := by rfl) (hx : evl l x = some (.int .i64 (k : Nat)) := by rfl) :
  OpW P n B none l H o (fun q : Nat × Nat => k ≤ q.2 ∧ q.2 ≤ maxLen) (fun q => (d, .slice (some ⟨q.1, 0, none⟩) k q.2) :: l) (fun q => bytB e (some ⟨q.1, 0, none⟩) q.2 ⟨#[]⟩ :: H) :=
 OpW.of_run hd hn (V := fun q : Nat × Nat => .slice (some ⟨q.1, 0, none⟩) k q.2) (fun a1 w ha hw => by
  obtain ⟨cs, hrun, hle, hmax⟩ := Lib.run_makeNoZero (P := P) w ps t e u.h k (by omega)
  have hb : Below w.heap.size w (w.drew.drew.alloc (.cells cs e)) := ((Below.refl _ w).drew.drew).alloc (Nat.le_refl _) _
  refine ⟨(w.heap.size, cs.size), _, ⟨hle, hmax (by unfold maxLen; omega)⟩, ?_, hw.new hb ?_ (fun b hb' => ?_), hb⟩
  ·unfold execOp
   simp only [ho, resolve, List.map_toArray, List.map_cons, List.map_nil, ha.ev hx]
   have e1 : (do let d ← Deferred.ofValue (a1.eval (.func f)) #[.int .i64 (k : Nat)]; invoke d.target d.args) = callFunc f #[.int .i64 (k : Nat)] := by
    simp [Deferred.ofValue, Act.eval, invoke]
   rw [e1, hf, hrun]; rfl
  ·exact ⟨rfl, .inr ⟨w.heap.size, cs.size, cs, rfl, Nat.zero_le _, heap_alloc_new w.drew.drew _, Nat.zero_le _, hmax (by unfold maxLen; omega), by rw [Nat.mul_one], by show List.take 0 cs.toList = []; exact List.take_zero⟩⟩
  ·injection hb' with hb'; subst hb'; exact ⟨Nat.le_refl _, by simp⟩)
end
end Go.Proofs.Ytmcpnoailbmkkaa
/- Layer 7: Clone; Sorted, without (document). -/
namespace Go.Proofs.Ytmcpnoailbmkkaa
open Go Go.RowKit Go.Proofs
attribute [local irreducible] J JQ JL JA JD

set_option maxRecDepth 100000 in
set_option maxHeartbeats 4000000 in
theorem CloneT (l : List St) (v : Value) (w : World) (hrow : Arr 4 eT w v l) (hl9 : l.length ≤ 1000) : Calls Try.prog 21 #[v] w (RetS 49 4 eT l w) := by
 have hrow0 := hrow
 obtain ⟨A, cap, rfl, -, ⟨hl, -⟩, hA⟩ := hrow
 refine J_enter (fun _ => False) (vs := [.slice A l.length cap]) (k := 7) (l := [(0, .slice A l.length cap)]) Try.func21 rfl rfl Try.ntmps21 rfl rfl (Wd.start _) ?_
 refine s9 ?_
 refine aP (pSlNil rfl rfl) ?_
 refine JL_bool (fun h4 => ?_) (fun h4 => ?_)
 ·refine s4 ?_
  refine J_own0 49 4 ?_
  refine kJ [] ?_
  refine s6 ?_
  refine JR_one rfl (rr_tmp rfl) ?_
  intro w' hw
  obtain rfl : l = [] := by
   cases l with
   | nil => rfl
   | cons y l =>
    obtain ⟨b, o, h, -⟩ := hA (by intro h; cases h)
    rw [h] at h4; cases h4
  exact ⟨none, 0, rfl, hw.pick (by repeat constructor)⟩
 ·refine s7 ?_
  refine aW (ow_slice0 (k := 4) (ty := 49) rfl rfl rfl (fun _ => by kernel_rfl)) (fun b5 hb5 => ?_)
  refine s1 ?_
  refine aS (oAppX (sl := 32) ET ([] : List St) l (fun w hw => hrow0.up ET hw.bel) rfl (Nat.le_refl _) (hl := by rw [List.length_nil]; omega)) (fun A7 c7 => ?_)
  rw [List.nil_append]
  refine s4 ?_
  refine JR_one rfl (rr_tmp rfl) ?_
  intro w' hw
  exact ⟨A7, c7, rfl, hw.pick (by repeat constructor)⟩
theorem fidx_in {α : Type} {p : α → Bool} {l : List α} (h : 0 ≤ fidx p l) : ∃ (k : Nat) (hk : k < l.length), fidx p l = k ∧ p (l[k]'hk) = true ∧ ∀ j (hj : j < k), p (l[j]'(by omega)) = false := by
 unfold fidx at h ⊢
 split at h
 ·rename_i hk
  rw [if_pos hk]
  exact ⟨l.findIdx p, hk, rfl, List.findIdx_getElem, fun j hj => by simpa using List.not_of_lt_findIdx hj⟩
 ·omega
theorem fidx_out {α : Type} {p : α → Bool} {l : List α} (h : ¬ 0 ≤ fidx p l) : ∀ x ∈ l, p x = false := fun x hx => by
 rw [← Bool.not_eq_true]
 intro hp
 have hlt : l.findIdx p < l.length := List.findIdx_lt_length.2 ⟨x, hx, hp⟩
 unfold fidx at h
 rw [if_pos hlt] at h
 omega
theorem srtQ_in {l : List St} {t n k : Nat} (hn : n < 8) (hk : k < l.length) (h1 : isB (t : Nat) (n : Nat) (l[k]'hk) = true) (h2 : ∀ j (hj : j < k), isB (t : Nat) (n : Nat) (l[j]'(by omega)) = false) : srtQ l (8 * t + n + 1) = srtQ l (8 * t + n) ++ [l[k]'hk] := by
 rw [srtQ_step, show (8 * t + n) / 8 = t by omega, show (8 * t + n) % 8 = n by omega, find_yes hk h1 h2]; rfl
theorem srtQ_out {l : List St} {t n : Nat} (hn : n < 8) (h : ∀ s ∈ l, isB (t : Nat) (n : Nat) s = false) : srtQ l (8 * t + n + 1) = srtQ l (8 * t + n) := by
 rw [srtQ_step, show (8 * t + n) / 8 = t by omega, show (8 * t + n) % 8 = n by omega, find_no h]; simp
end Go.Proofs.Ytmcpnoailbmkkaa
/- Layer 7: without (document). -/
namespace Go.Proofs.Ytmcpnoailbmkkaa
open Go Go.RowKit Go.Proofs
attribute [local irreducible] J JQ JL JA JD

def woL (t n : Int) (l : List St) : List St := l.filter (fun s => !isB t n s)
theorem woL_s {t n : Int} {l : List St} {k : Nat} {x : St} (hk : k < l.length) (hx : l[k]'hk = x) : woL t n (l.take (k + 1)) = if isB t n x = true then woL t n (l.take k) else woL t n (l.take k) ++ [x] := by
 unfold woL; rw [List.take_succ_eq_append_getElem hk, List.filter_append, hx]
 by_cases e : isB t n x = true
 ·rw [if_pos e]; simp [e]
 ·rw [if_neg e]; simp [e]
theorem woL_len (t n : Int) (l : List St) (k : Nat) : (woL t n (l.take k)).length ≤ k := Nat.le_trans (List.length_filter_le _ _) (List.length_take_le _ _)
end Go.Proofs.Ytmcpnoailbmkkaa
/- Layers 2, 7: positions, outcomes, rulings compared (document). -/
namespace Go.Proofs.Ytmcpnoailbmkkaa
open Go Go.RowKit Go.Proofs
attribute [local irreducible] J JQ JL JA JD

set_option maxRecDepth 100000 in
set_option maxHeartbeats 4000000 in
theorem refSame (l m : List St) (v u : Value) (w : World) (hrow : Arr 4 eT w v l) (hrow2 : Arr 4 eT w u m) : Calls Try.prog 10 #[v, u] w (Back (.bool (decide (l = m))) w) := by
 obtain ⟨A, cap, rfl, -, ⟨hl, -⟩, hA⟩ := hrow
 obtain ⟨A2, cap2, rfl, -, ⟨hl2, -⟩, hA2⟩ := hrow2
 refine J_enter (fun _ => False) (vs := [.slice A l.length cap, .slice A2 m.length cap2]) (k := 24) (l := [(0, .slice A l.length cap), (1, .slice A2 m.length cap2)]) Try.func10 rfl rfl Try.ntmps10 rfl rfl (Wd.start _) ?_
 refine s13 ?_
 refine JL_dec (fun h10 => ?_) (fun h10 => ?_)
 ·refine s4 ?_
  refine kJ [] ?_
  refine s6 ?_
  refine JR_one rfl (rr_tmp rfl) ?_
  intro w' hw
  exact ⟨by rw [decide_eq_false (fun h => by rw [h] at h10; exact h10 rfl)], hw.bel⟩
 ·refine s7 ?_
  refine kJ [(0, _), (1, _)] ?_
  refine s5 ?_
  refine xL (T := Nat) (fun k => k ≤ l.length ∧ ∀ j (hj : j < l.length) (hj2 : j < m.length), j < k → l[j]'hj = m[j]'hj2) (fun k => [(0, .slice A l.length cap), (1, .slice A2 m.length cap2), (5, .int .i64 (k : Nat))]) (fun k => []) (fun k => l.length - k) 0 ⟨Nat.zero_le _, fun j _ _ h => absurd h (Nat.not_lt_zero _)⟩ ?_
  rintro k ⟨hk, hall⟩
  refine s7 ?_
  refine JL_dec (fun h14 => ?_) (fun h14 => ?_)
  ·refine s8 ?_
   have hltx : k < l.length := by omega
   obtain ⟨bx, qx, rfl, hh⟩ := hA (by intro e; subst e; simp at hltx)
   obtain ⟨⟨xt, xn, xx, xy⟩, hx⟩ : ∃ y, l[k]'hltx = y := ⟨_, rfl⟩
   have hmx : (⟨xt, xn, xx, xy⟩ : St) ∈ l := by rw [← hx]; exact List.getElem_mem _
   have hlty : k < m.length := by omega
   obtain ⟨bky, qy, rfl, hh2⟩ := hA2 (by intro e; subst e; simp at hlty)
   obtain ⟨⟨yt, yn, yx, yy⟩, hy⟩ : ∃ y, m[k]'hlty = y := ⟨_, rfl⟩
   have hmy : (⟨yt, yn, yx, yy⟩ : St) ∈ m := by rw [← hy]; exact List.getElem_mem _
   refine kJ [(0, _), (1, _), (5, _)] ?_
   refine xD [0, 1, 2, 3, 4, 5, 6, 7, 8] [3, 7] ?_
   refine s3 ?_
   refine dL rfl (vHoldA (cs := [.int .i64 xt, .int .i64 xn, .int .i64 xx, .int .i64 xy]) ET rfl rfl (fun h => h) hh hltx (by rw [hx]; rfl)) ?_
   refine s3 ?_
   refine dL rfl (vHoldA (cs := [.int .i64 yt, .int .i64 yn, .int .i64 yx, .int .i64 yy]) ET rfl rfl (fun h => h) hh2 hlty (by rw [hy]; rfl)) ?_
   refine dP rfl (pNeqT (⟨xt, xn, xx, xy⟩ : St) (⟨yt, yn, yx, yy⟩ : St) rfl rfl rfl) ?_
   refine dBool (fun h25 => ?_) (fun h25 => ?_)
   ·refine dO [] ?_
    refine s4 ?_
    refine kJ [] ?_
    refine s10 ?_
    refine JR_one rfl (rr_tmp rfl) ?_
    intro w' hw
    exact ⟨by rw [decide_eq_false (fun h => by subst h; rw [hx] at hy; cases hy; rw [(eqS_iff _ _).2 rfl] at h25; cases h25)], hw.bel⟩
   ·refine dO [] ?_
    refine s6 ?_
    refine kJ [(0, _), (1, _), (5, _)] ?_
    refine s5 ?_
    have hn : ∀ j (hj : j < l.length) (hj2 : j < m.length), j < k + 1 → l[j]'hj = m[j]'hj2 := fun j hj hj2 hjk => by
     rcases Nat.lt_or_ge j k with h | h
     ·exact hall j hj hj2 h
     ·obtain rfl : j = k := by omega
      rw [hx, hy]; exact (eqS_iff _ _).1 (by cases h0 : eqS (⟨xt, xn, xx, xy⟩ : St) (⟨yt, yn, yx, yy⟩ : St) with | true => rfl | false => rw [h0] at h25; cases h25)
    exact xR (k + 1) ⟨by omega, hn⟩ (by omega) (hl := ⟨rfl, rfl, (congrArg some (by go_num)), trivial⟩)
  ·refine s9 ?_
   refine kJ [] ?_
   refine s5 ?_
   refine JR_one rfl (rr_tmp rfl) ?_
   intro w' hw
   obtain rfl : k = l.length := by omega
   exact ⟨by rw [decide_eq_true (List.ext_getElem (by omega) (fun j h1 h2 => hall j h1 h2 h1))], hw.bel⟩
/-- An outcome: its stones are a slice. -/
structure Oc where
 d : Dv St
 g : Bool
def eO (p : Oc) : List Value := [p.d.v, .bool p.g]
theorem EO : Enc 2 eO := ⟨fun _ => rfl, fun x v h => by simp [eO, Dv.v] at h; rcases h with rfl | rfl <;> rfl⟩
abbrev Ocv (p : Oc) : Value := .agg #[p.d.v, .bool p.g]
def OcW (w : World) (p : Oc) : Prop := Arr 4 eT w p.d.v p.d.l
theorem OcW.up {w w' : World} {p : Oc} (h : OcW w p) (hb : Below w.heap.size w w') : OcW w' p := Arr.up ET h hb
/-- What an outcome says. -/
def oP (p : Oc) : List St × Bool := (p.d.l, p.g)
end Go.Proofs.Ytmcpnoailbmkkaa
/- Layer 7: rulings compared (document). -/
namespace Go.Proofs.Ytmcpnoailbmkkaa
open Go Go.RowKit Go.Proofs
attribute [local irreducible] J JQ JL JA JD

end Go.Proofs.Ytmcpnoailbmkkaa
/- Layer 7: Good (document); is an end one? -/
namespace Go.Proofs.Ytmcpnoailbmkkaa
open Go Go.RowKit Go.Proofs
attribute [local irreducible] J JQ JL JA JD

set_option maxRecDepth 100000 in
theorem pNeqP {n : Nat} {l : Sl} {o : Oper} {x : Operand} {ty t : TypeId} {p : Option Addr} (ht : Try.prog.underlying t = some (.pointer (Try.prog.pointee t))) (ho : o.op = .binOp .neq t x (.const (.pointer none)) ty) (hx : evl l x = some (.pointer p)) : RP Try.prog n l o (.bool (!p.isNone)) := rp2 hx (y := .const (.pointer none)) rfl (fun ρ h1 h2 w => by
 have h := run_neq_pointer_nil (P := Try.prog) w t p ht
 unfold execOp
 simp only [ho, h1, h2]
 simp [h, eqGuard])
/-- May there be such an end? The error. -/
def goodR (c : Cd) (first power : Int) : Int := if ccB c = true ∧ (0 ≤ first ∧ first ≤ 1) then (if (-1 ≤ power ∧ power ≤ 1) ∧ (c.p = true ∨ power = 0) then 0 else 4) else 2
end Go.Proofs.Ytmcpnoailbmkkaa
/- Layer 7: an end, read. -/
namespace Go.Proofs.Ytmcpnoailbmkkaa
open Go Go.RowKit Go.Proofs
attribute [local irreducible] J JQ JL JA JD

set_option maxRecDepth 100000 in
set_option maxHeartbeats 4000000 in
theorem is_any (b : Nat) (kf kt ks ke : Int) (kp mk : Bool) (fr : Int) (sA : Option Addr) (sn sk : Nat) (tn : Int) (pd : Option Addr) (w : World) (h : (cellB b [.int .i64 kf, .int .i64 kt, .int .i64 ks, .int .i64 ke, .bool kp, .bool mk, .int .i64 fr, .slice sA sn sk, .int .i64 tn, .pointer pd] 78).holds w) : Calls Try.prog 36 #[.pointer (some ⟨b, 0, none⟩)] w (Back (.bool mk) w) := by
 refine J_enter (fun _ => False) (vs := [.pointer (some ⟨b, 0, none⟩)]) (k := 10) (l := [(0, .pointer (some ⟨b, 0, none⟩))]) Try.func36 rfl rfl Try.ntmps36 rfl rfl (Wd.start _) ?_
 refine s8 ?_
 refine aP (pNeqP (by kernel_rfl) rfl rfl) ?_
 refine aBoolT ?_ rfl
 refine s4 ?_
 refine aV (vOld rfl rfl (fun h => h) (cellB_get h rfl)) ?_
 refine s5 ?_
 refine JR_one rfl (rr_tmp rfl) ?_
 intro w' hw
 exact ⟨rfl, hw.bel⟩
set_option maxRecDepth 100000 in
set_option maxHeartbeats 4000000 in
theorem is_nil (w : World) : Calls Try.prog 36 #[.pointer none] w (Back (.bool false) w) := by
 refine J_enter (fun _ => False) (vs := [.pointer none]) (k := 10) (l := [(0, .pointer none)]) Try.func36 rfl rfl Try.ntmps36 rfl rfl (Wd.start _) ?_
 refine s8 ?_
 refine aP (pNeqP (by kernel_rfl) rfl rfl) ?_
 refine aBoolF ?_ rfl
 refine s10 ?_
 refine JR_one rfl (rr_tmp rfl) ?_
 intro w' hw
 exact ⟨rfl, hw.bel⟩
set_option maxRecDepth 100000 in
set_option maxHeartbeats 4000000 in
theorem over_any (b : Nat) (kf kt ks ke : Int) (kp mk : Bool) (fr : Int) (sA : Option Addr) (sn sk : Nat) (tn : Int) (pd : Option Addr) (w : World) (h : (cellB b [.int .i64 kf, .int .i64 kt, .int .i64 ks, .int .i64 ke, .bool kp, .bool mk, .int .i64 fr, .slice sA sn sk, .int .i64 tn, .pointer pd] 78).holds w) (he : 0 ≤ ke ∧ ke ≤ 100) : Calls Try.prog 37 #[.pointer (some ⟨b, 0, none⟩)] w (Back (.bool (decide (tn = 2 * ke))) w) := by
 refine J_enter (fun _ => False) (vs := [.pointer (some ⟨b, 0, none⟩)]) (k := 13) (l := [(0, .pointer (some ⟨b, 0, none⟩))]) Try.func37 rfl rfl Try.ntmps37 rfl rfl (Wd.start _) ?_
 refine s6 ?_
 refine xD [0, 1, 2, 3, 4, 5, 6, 7, 8, 9, 10, 11] [3, 8] ?_
 refine s3 ?_
 refine dL rfl (vOld rfl rfl (fun h => h) (cellB_get h rfl)) ?_
 refine s4 ?_
 refine dL rfl (vOld rfl rfl (fun h => h) (cellB_get h rfl)) ?_
 refine s6 ?_
 refine JR_one rfl (rr_tmp rfl) ?_
 intro w' hw
 exact ⟨rfl, hw.bel⟩
theorem It.up_cell {b : Nat} {vs : List Value} {ty : TypeId} {w w' : World} (h : (cellB b vs ty).holds w) (hb : Below w.heap.size w w') : (cellB b vs ty).holds w' := by
 have h' : w.heap[b]? = some (.cells vs.toArray ty (0, 0)) := h
 have hlt : b < w.heap.size := (Array.getElem?_eq_some_iff.1 h').1
 show w'.heap[b]? = _
 rw [hb.block b hlt]; exact h'
end Go.Proofs.Ytmcpnoailbmkkaa
/- Layer 7: Position. -/
namespace Go.Proofs.Ytmcpnoailbmkkaa
open Go Go.RowKit Go.Proofs
attribute [local irreducible] J JQ JL JA JD

set_option maxRecDepth 100000 in
set_option maxHeartbeats 4000000 in
theorem Position_any (b : Nat) (kf kt ks ke : Int) (kp : Bool) (fr : Int) (sA : Option Addr) (l : List St) (sk : Nat) (tn : Int) (pd : Option Addr) (w : World) (h : (cellB b [.int .i64 kf, .int .i64 kt, .int .i64 ks, .int .i64 ke, .bool kp, .bool true, .int .i64 fr, .slice sA l.length sk, .int .i64 tn, .pointer pd] 78).holds w) (hrow : Arr 4 eT w (.slice sA l.length sk) l) (hl9 : l.length ≤ 1000) : Calls Try.prog 19 #[.pointer (some ⟨b, 0, none⟩)] w (RetS 49 4 eT l w) := by
 refine J_enter (fun _ => False) (vs := [.pointer (some ⟨b, 0, none⟩)]) (k := 10) (l := [(0, .pointer (some ⟨b, 0, none⟩))]) Try.func19 rfl rfl Try.ntmps19 rfl rfl (Wd.start _) ?_
 refine s9 ?_
 refine aCB (fun w hw => is_any b kf kt ks ke kp true fr sA l.length sk tn pd w (It.up_cell h hw.bel)) ?_
 refine aBoolT ?_ rfl
 refine s7 ?_
 refine kJ [(0, _)] ?_
 refine s4 ?_
 refine aV (vOld rfl rfl (fun h => h) (cellB_get h rfl)) ?_
 refine aS (oS (fun w hw => CloneT l _ w (hrow.up ET hw.bel) hl9)) (fun A10 c10 => ?_)
 refine s4 ?_
 refine JR_one rfl (rr_tmp rfl) ?_
 intro w' hw
 exact ⟨A10, c10, rfl, hw.pick (by repeat constructor)⟩
set_option maxRecDepth 100000 in
set_option maxHeartbeats 4000000 in
theorem Position_nil (w : World) : Calls Try.prog 19 #[.pointer none] w (Back (.slice none 0 0) w) := by
 refine J_enter (fun _ => False) (vs := [.pointer none]) (k := 10) (l := [(0, .pointer none)]) Try.func19 rfl rfl Try.ntmps19 rfl rfl (Wd.start _) ?_
 refine s9 ?_
 refine aCB (fun w hw => is_nil w) ?_
 refine aBoolF ?_ rfl
 refine s5 ?_
 refine kJ [] ?_
 refine s6 ?_
 refine JR_one rfl (rr_tmp rfl) ?_
 intro w' hw
 exact ⟨rfl, hw.bel⟩
end Go.Proofs.Ytmcpnoailbmkkaa
/-
  DERIVED: THE SHELF's CONTRACTS AT THIS DUMP, IN PLAIN WORDS (tools/lay-plain.mjs out of 'YtmcpnoailbmkkaaSh.lean', which tools/lay-shelf.mjs wrote): THE SAME DECLARATIONS UNDER THE SAME NAMES: 'import', 'namespace', 'open', 'def', 'theorem' AND NOTHING ELSE: no command of the shelf's: FOR A HAND-IN. Each laying: the table of numbers ('.._ren') and one theorem, a field a fact of the dump's own or the kernel's comparison; each contract: ONE APPLICATION.
-/
namespace Go.Proofs
open Go.Shelf
def Try.sortSt_ren : Go.Shelf.Ren := ⟨fun | 6 => 45 | 15 => 63 | 14 => 62 | 28 => 88 | 29 => 89 | 20 => 80 | 21 => 81 | 22 => 82 | 23 => 83 | 24 => 84 | 25 => 85 | 26 => 86 | 27 => 87 | 46 => 94 | 47 => 95 | 48 => 96 | 49 => 97 | 50 => 98 | 57 => 100 | n => n, fun | 22 => 32 | 24 => 49 | 25 => 100 | 3 => 3 | 39 => 127 | 0 => 0 | 53 => 143 | 55 => 145 | 4 => 4 | 46 => 136 | 45 => 135 | 50 => 140 | 5 => 5 | 9 => 9 | 66 => 149 | 70 => 153 | 76 => 155 | 77 => 90 | n => n, fun | n => n⟩
theorem Try.sortSt : Go.Proofs.SlLaysF0.n6 Try.prog Try.sortSt_ren := {
  mixed := by kernel_rfl
  f6 := ⟨Try.f45.name, by decide, Try.func45.trans (congrArg some (by kernel_rfl))⟩
  f14 := ⟨Try.f62.name, by decide, Try.func62.trans (congrArg some (by kernel_rfl))⟩
  f15 := Try.func63.trans (congrArg some (by kernel_rfl))
  f20 := ⟨Try.f80.name, by decide, Try.func80.trans (congrArg some (by kernel_rfl))⟩
  f21 := ⟨Try.f81.name, by decide, Try.func81.trans (congrArg some (by kernel_rfl))⟩
  f22 := ⟨Try.f82.name, by decide, Try.func82.trans (congrArg some (by kernel_rfl))⟩
  f23 := ⟨Try.f83.name, by decide, Try.func83.trans (congrArg some (by kernel_rfl))⟩
  f24 := ⟨Try.f84.name, by decide, Try.func84.trans (congrArg some (by kernel_rfl))⟩
  f25 := ⟨Try.f85.name, by decide, Try.func85.trans (congrArg some (by kernel_rfl))⟩
  f26 := ⟨Try.f86.name, by decide, Try.func86.trans (congrArg some (by kernel_rfl))⟩
  f27 := ⟨Try.f87.name, by decide, Try.func87.trans (congrArg some (by kernel_rfl))⟩
  f28 := Try.func88.trans (congrArg some (by kernel_rfl))
  f29 := Try.func89.trans (congrArg some (by kernel_rfl))
  f46 := ⟨Try.f94.name, by decide, Try.func94.trans (congrArg some (by kernel_rfl))⟩
  f47 := Try.func95.trans (congrArg some (by kernel_rfl))
  f48 := Try.func96.trans (congrArg some (by kernel_rfl))
  f49 := ⟨Try.f97.name, by decide, Try.func97.trans (congrArg some (by kernel_rfl))⟩
  f50 := ⟨Try.f98.name, by decide, Try.func98.trans (congrArg some (by kernel_rfl))⟩
  f57 := ⟨Try.f100.name, by decide, Try.func100.trans (congrArg some (by kernel_rfl))⟩
  t0 := Try.underlying0
  a0 := Try.isAgg0
  z0 := Try.sizeOf0
  v0 := Try.zeroValue0
  t3 := Try.underlying3
  a3 := Try.isAgg3
  z3 := Try.sizeOf3
  v3 := Try.zeroValue3
  t4 := Try.underlying4
  a4 := Try.isAgg4
  z4 := Try.sizeOf4
  v4 := Try.zeroValue4
  t5 := Try.underlying5
  a5 := Try.isAgg5
  z5 := Try.sizeOf5
  v5 := Try.zeroValue5
  t9 := Try.underlying9
  a9 := Try.isAgg9
  z9 := Try.sizeOf9
  v9 := Try.zeroValue9
  t22 := Try.underlying32
  a22 := Try.isAgg32
  z22 := Try.sizeOf32
  v22 := Try.zeroValue32
  t25 := Try.underlying100
  a25 := Try.isAgg100
  z25 := Try.sizeOf100
  v25 := Try.zeroValue100
  t39 := Try.underlying127
  a39 := Try.isAgg127
  z39 := Try.sizeOf127
  v39 := Try.zeroValue127
  t45 := Try.underlying135
  a45 := Try.isAgg135
  z45 := Try.sizeOf135
  v45 := Try.zeroValue135
  t46 := Try.underlying136
  a46 := Try.isAgg136
  z46 := Try.sizeOf136
  v46 := Try.zeroValue136
  t50 := Try.underlying140
  a50 := Try.isAgg140
  z50 := Try.sizeOf140
  v50 := Try.zeroValue140
  t53 := Try.underlying143
  a53 := Try.isAgg143
  z53 := Try.sizeOf143
  v53 := Try.zeroValue143
  t55 := Try.underlying145
  a55 := Try.isAgg145
  z55 := Try.sizeOf145
  v55 := Try.zeroValue145
  t66 := Try.underlying149
  a66 := Try.isAgg149
  z66 := Try.sizeOf149
  v66 := Try.zeroValue149
  t70 := Try.underlying153
  a70 := Try.isAgg153
  z70 := Try.sizeOf153
  v70 := Try.zeroValue153
  t76 := Try.underlying155
  a76 := Try.isAgg155
  z76 := Try.sizeOf155
  v76 := Try.zeroValue155
  t77 := Try.underlying90
  a77 := Try.isAgg90
  z77 := Try.sizeOf90
  v77 := Try.zeroValue90 }
end Go.Proofs
