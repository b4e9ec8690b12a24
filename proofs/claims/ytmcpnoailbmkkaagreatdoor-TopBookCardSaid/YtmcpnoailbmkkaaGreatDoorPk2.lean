/- Layers of the proofs, joined: G5 G6 Gt G7 G8 G9 G10 G11 R1 Ra Rb Rc Rd Re Rf Rg Rh Ri. -/
import Derived.Test.YtmcpnoailbmkkaaGreatDoorPk1
import Derived.Test.YtmcpnoailbmkkaaGreatDoorProg
import Derived.WideKeyEntry
import Derived.Maps.RangeWalk
import Derived.RangeFuncIn
import Derived.RangeFuncRecord
import Derived.RangeFuncLeaves
import Derived.RangeFuncSeq
import Derived.Recover
import Derived.Scope
import Derived.Sort.CutIn
/- The walk by live slots: drawn regions by a printed order; short rules; runs of steps; panics. Over any program. -/
namespace Go.Proofs.YtmcpnoailbmkkaaGreatDoor
open Go Go.RowKit Go.Proofs Go.Shelf

section
variable {P : Program} {n : Nat} {B : Bs} {Q Q' : Exit → Act → World → Prop} {l l' : Sl} {H H' : List It} {ops : Array Oper} {rest : List Oper} {o : Oper} {c x y : Code} {ld lx ord : List Nat} {H0 Hx : List It} {fuel : Nat} {listed : Array Bool}
/-! ### Drawn regions -/
/-- ord: what is taken next (no part of what is said). -/
def JD (_ord : List Nat) (P : Program) (n : Nat) (B : Bs) (ops : Array Oper) (Q : Exit → Act → World → Prop) (ld : List Nat) (H0 : List It) (lx : List Nat) (Hx : List It) (fuel : Nat) (listed : Array Bool) (l : Sl) (H : List It) : Prop := JA P n B ops Q ld H0 lx Hx fuel listed l H
def okT (ops : Array Oper) (listed : Array Bool) (i : Nat) (L : List Nat) : Bool := Region.noSelect ops && (Region.free .any ops listed i && ((Region.ready .any ops listed).contains i && !L.contains i))
def okL (ops : Array Oper) (listed : Array Bool) (i : Nat) (L L' : List Nat) : Bool := Region.noSelect ops && (Region.free .any ops listed i && ((Region.ready .any ops listed).contains i && (L.contains i && !L'.contains i)))
theorem okT_out {i : Nat} {L : List Nat} (h : okT ops listed i L = true) : Region.noSelect ops = true ∧ Region.free .any ops listed i = true ∧ (Region.ready .any ops listed).contains i = true ∧ L.contains i = false := by
 unfold okT at h
 rw [Bool.and_eq_true, Bool.and_eq_true, Bool.and_eq_true, Bool.not_eq_true'] at h; exact h
theorem okL_out {i : Nat} {L L' : List Nat} (h : okL ops listed i L L' = true) : Region.noSelect ops = true ∧ Region.free .any ops listed i = true ∧ (Region.ready .any ops listed).contains i = true ∧ L.contains i = true ∧ L'.contains i = false := by
 unfold okL at h
 rw [Bool.and_eq_true, Bool.and_eq_true, Bool.and_eq_true, Bool.and_eq_true, Bool.not_eq_true'] at h; exact h
theorem xD {id : Nat} {ls : List Oper} (ord ld : List Nat) (h : JD ord P n B ls.toArray Q ld H [] [] ls.length (Array.replicate ls.length false) l H) (hm : P.follows .mixedOrders = true := by kernel_rfl) (hd : B.r = none ∨ ndL ls = true := by first | exact .inl rfl | exact .inr rfl) : J P n B (.region id ls.toArray true) Q l H := J_draw ld hm h (hd := hd)
theorem xDx {id : Nat} {ls : List Oper} (ord ld lx : List Nat) (Hx : List It) (h : JD ord P n B ls.toArray Q ld H lx Hx ls.length (Array.replicate ls.length false) l H) (hk : Pk Hx H := by repeat constructor) (hm : P.follows .mixedOrders = true := by kernel_rfl) (hd : B.r = none ∨ ndL ls = true := by first | exact .inl rfl | exact .inr rfl) : J P n B (.region id ls.toArray true) Q l H := J_drawX ld lx Hx hk hm h (hd := hd)
theorem dO (ord' : List Nat) (h : JD ord' P n B ops Q ld H0 lx Hx fuel listed l H) : JD ord P n B ops Q ld H0 lx Hx fuel listed l H := h
theorem dDone (h : JQ n B Q .normal l H) (hr : Region.ready .any ops listed = [] := by kernel_rfl) : JD [] P n B ops Q ld H0 lx Hx fuel listed l H := JA_done hr h
theorem wAny (h : WN ops n l o true := by first | exact wn0 rfl | exact wn_g rfl rfl rfl rfl) : WN ops n l o true := h
theorem wOff (h : WN ops n l o false := by first | exact wn_g rfl rfl rfl rfl | exact wn_u rfl rfl rfl) : WN ops n l o false := h
theorem dP {i d : Nat} {v : Value} (hi : ops[i]? = some o) (hv : RP P n l o v) (k : JD ord P n B ops Q ld H0 lx Hx fuel (listed.setIfInBounds i true) ((d, v) :: l) H) (hd : o.dst = some d := by rfl) (hc : okT ops listed i (ld ++ lx) = true := by kernel_rfl) (hW : WN ops n l o true := by exact wAny) (hn : Nat.ble n d = false := by rfl) :
  JD (i :: ord) P n B ops Q ld H0 lx Hx (fuel + 1) listed l H := by obtain ⟨h1, h2, h3, h4⟩ := okT_out hc; exact JA_takeP hi hd h1 h2 h3 h4 hW hv hn k
theorem dL {i d : Nat} {v : Value} (hi : ops[i]? = some o) (hv : RV P n B l H0 o v) (k : JD ord P n B ops Q ld H0 lx Hx fuel (listed.setIfInBounds i true) ((d, v) :: l) H) (hd : o.dst = some d := by rfl) (_hl : ld.contains i = true := by rfl) (hc : okL ops listed i ld lx = true := by kernel_rfl) (hk : Pk H0 H := by repeat constructor) (hW : WN ops n l o true := by exact wAny) (hn : Nat.ble n d = false := by rfl) :
  JD (i :: ord) P n B ops Q ld H0 lx Hx (fuel + 1) listed l H := by obtain ⟨h1, h2, h3, h4, h5⟩ := okL_out hc; exact JA_takeL hi hd h1 h2 h3 h4 h5 hk hW hv hn k
theorem dX {i d : Nat} {v : Value} (hi : ops[i]? = some o) (hv : RV P n B l Hx o v) (k : JD ord P n B ops Q ld H0 lx Hx fuel (listed.setIfInBounds i true) ((d, v) :: l) H) (hd : o.dst = some d := by rfl) (_hl : lx.contains i = true := by rfl) (hc : okL ops listed i lx ld = true := by kernel_rfl) (hk : Pk Hx H := by repeat constructor) (hW : WN ops n l o true := by exact wAny) (hn : Nat.ble n d = false := by rfl) :
  JD (i :: ord) P n B ops Q ld H0 lx Hx (fuel + 1) listed l H := by obtain ⟨h1, h2, h3, h4, h5⟩ := okL_out hc; exact JA_takeX hi hd h1 h2 h3 h5 h4 hk hW hv hn k
theorem dF {i d : Nat} (hi : ops[i]? = some o) (hW : WN ops n l o false) (k : JD ord P n B ops Q ld H0 lx Hx fuel (listed.setIfInBounds i true) ((d, undef) :: l) H) (hd : o.dst = some d := by rfl) (_hl : (ld ++ lx).contains i = false := by rfl) (hc : okT ops listed i (ld ++ lx) = true := by kernel_rfl) (hn : Nat.ble n d = false := by rfl) :
  JD (i :: ord) P n B ops Q ld H0 lx Hx (fuel + 1) listed l H := by obtain ⟨h1, h2, h3, h4⟩ := okT_out hc; exact JA_off hi hd h1 h2 h3 h4 hW hn k
theorem dFL {i d : Nat} (hi : ops[i]? = some o) (hW : WN ops n l o false) (k : JD ord P n B ops Q ld H0 lx Hx fuel (listed.setIfInBounds i true) ((d, undef) :: l) H) (hd : o.dst = some d := by rfl) (hl : lx.contains i = false := by rfl) (_hx : ld.contains i = true := by rfl) (hc : okL ops listed i ld lx = true := by kernel_rfl) (hk : Pk H0 H := by repeat constructor) (hn : Nat.ble n d = false := by rfl) :
  JD (i :: ord) P n B ops Q ld H0 lx Hx (fuel + 1) listed l H := by obtain ⟨h1, h2, h3, h4, h5⟩ := okL_out hc; exact JA_offL hi hd h1 h2 h3 hl hk hW hn k
theorem dFX {i d : Nat} (hi : ops[i]? = some o) (hW : WN ops n l o false) (k : JD ord P n B ops Q ld H0 lx Hx fuel (listed.setIfInBounds i true) ((d, undef) :: l) H) (hd : o.dst = some d := by rfl) (hl : ld.contains i = false := by rfl) (_hx : lx.contains i = true := by rfl) (hc : okL ops listed i lx ld = true := by kernel_rfl) (hk : Pk Hx H := by repeat constructor) (hn : Nat.ble n d = false := by rfl) :
  JD (i :: ord) P n B ops Q ld H0 lx Hx (fuel + 1) listed l H := by obtain ⟨h1, h2, h3, h4, h5⟩ := okL_out hc; exact JA_offX hi hd h1 h2 h3 hl hk hW hn k
/-- One operation alone may come up. -/
theorem dW {i : Nat} {m : Option It} {T : Type} {φ : T → Prop} {D : T → Sl} {G : T → List It} (hi : ops[i]? = some o) (h : OpW P n B m l H o φ D G) (k : ∀ t, φ t → JD ord P n B ops Q ld H0 lx Hx fuel (listed.setIfInBounds i true) (D t) (G t)) (hr : Region.ready .any ops listed = [i] := by kernel_rfl) (hm : Kp ops ld lx Hx H i m := by first | exact trivial | exact ⟨by kernel_rfl, .inl (rfl : waitsB _ [] _ = true)⟩ | exact ⟨by kernel_rfl, .inr ⟨rfl, by repeat constructor⟩⟩) (hW : WN ops n l o true := by exact wAny) :
  JD (i :: ord) P n B ops Q ld H0 lx Hx (fuel + 1) listed l H := JA_one hr hi hW h hm k
theorem dS {i : Nat} {m : Option It} {D : Option Addr → Nat → Sl} {G : Option Addr → Nat → List It} (hi : ops[i]? = some o) (h : OpS P n B m l H o D G) (k : ∀ A c, JD ord P n B ops Q ld H0 lx Hx fuel (listed.setIfInBounds i true) (D A c) (G A c)) (hr : Region.ready .any ops listed = [i] := by kernel_rfl) (hm : Kp ops ld lx Hx H i m := by first | exact trivial | exact ⟨by kernel_rfl, .inl (rfl : waitsB _ [] _ = true)⟩ | exact ⟨by kernel_rfl, .inr ⟨rfl, by repeat constructor⟩⟩) (hW : WN ops n l o true := by exact wAny) :
  JD (i :: ord) P n B ops Q ld H0 lx Hx (fuel + 1) listed l H := JA_oneS hr hi hW h hm k
theorem dDec {d : Nat} {p : Prop} [Decidable p] (h1 : p → JD ord P n B ops Q ld H0 lx Hx fuel listed ((d, .bool true) :: l) H) (h2 : ¬ p → JD ord P n B ops Q ld H0 lx Hx fuel listed ((d, .bool false) :: l) H) : JD ord P n B ops Q ld H0 lx Hx fuel listed ((d, .bool (decide p)) :: l) H := JA_dec h1 h2
theorem dBool {d : Nat} {b : Bool} (h1 : b = true → JD ord P n B ops Q ld H0 lx Hx fuel listed ((d, .bool true) :: l) H) (h2 : b = false → JD ord P n B ops Q ld H0 lx Hx fuel listed ((d, .bool false) :: l) H) : JD ord P n B ops Q ld H0 lx Hx fuel listed ((d, .bool b) :: l) H := JA_bool h1 h2
theorem dDecT {d : Nat} {p : Prop} [Decidable p] (h1 : JD ord P n B ops Q ld H0 lx Hx fuel listed ((d, .bool true) :: l) H) (hp : p := by omega) : JD ord P n B ops Q ld H0 lx Hx fuel listed ((d, .bool (decide p)) :: l) H := JA_decT hp h1
theorem dDecF {d : Nat} {p : Prop} [Decidable p] (h1 : JD ord P n B ops Q ld H0 lx Hx fuel listed ((d, .bool false) :: l) H) (hp : ¬ p := by omega) : JD ord P n B ops Q ld H0 lx Hx fuel listed ((d, .bool (decide p)) :: l) H := JA_decF hp h1
theorem dBoolF {d : Nat} {b : Bool} (h1 : JD ord P n B ops Q ld H0 lx Hx fuel listed ((d, .bool false) :: l) H) (hb : b = false := by assumption) : JD ord P n B ops Q ld H0 lx Hx fuel listed ((d, .bool b) :: l) H := JA_boolF hb h1
/-! ### Plain regions -/
theorem aDecT {d : Nat} {p : Prop} [Decidable p] (h1 : JL P n B ops Q rest ((d, .bool true) :: l) H) (hp : p := by omega) : JL P n B ops Q rest ((d, .bool (decide p)) :: l) H := JL_decT hp h1
theorem aDecF {d : Nat} {p : Prop} [Decidable p] (h1 : JL P n B ops Q rest ((d, .bool false) :: l) H) (hp : ¬ p := by omega) : JL P n B ops Q rest ((d, .bool (decide p)) :: l) H := JL_decF hp h1
theorem aBoolT {d : Nat} {b : Bool} (h1 : JL P n B ops Q rest ((d, .bool true) :: l) H) (hb : b = true := by assumption) : JL P n B ops Q rest ((d, .bool b) :: l) H := JL_boolT hb h1
theorem aBoolF {d : Nat} {b : Bool} (h1 : JL P n B ops Q rest ((d, .bool false) :: l) H) (hb : b = false := by assumption) : JL P n B ops Q rest ((d, .bool b) :: l) H := JL_boolF hb h1
theorem aP {v : Value} {d : Nat} (hv : RP P n l o v) (k : JL P n B ops Q rest ((d, v) :: l) H) (hd : o.dst = some d := by rfl) (hW : WN ops n l o true := by exact wAny) (hn : Nat.ble n d = false := by rfl) : JL P n B ops Q (o :: rest) l H := JL_val hd hW (RP.rv hv) hn k
theorem aV {v : Value} {d : Nat} (hv : RV P n B l H o v) (k : JL P n B ops Q rest ((d, v) :: l) H) (hd : o.dst = some d := by rfl) (hW : WN ops n l o true := by exact wAny) (hn : Nat.ble n d = false := by rfl) : JL P n B ops Q (o :: rest) l H := JL_val hd hW hv hn k
theorem aF {d : Nat} (k : JL P n B ops Q rest ((d, undef) :: l) H) (hd : o.dst = some d := by rfl) (hW : WN ops n l o false := by exact wOff) (hn : Nat.ble n d = false := by rfl) : JL P n B ops Q (o :: rest) l H := JL_off hd hW hn k
theorem aF0 (k : JL P n B ops Q rest l H) (hd : o.dst = none := by rfl) (hW : WN ops n l o false := by exact wOff) : JL P n B ops Q (o :: rest) l H := JL_off0 hd hW k
theorem aW {m : Option It} {T : Type} {φ : T → Prop} {D : T → Sl} {G : T → List It} (h : OpW P n B m l H o φ D G) (k : ∀ t, φ t → JL P n B ops Q rest (D t) (G t)) (hW : WN ops n l o true := by exact wAny) : JL P n B ops Q (o :: rest) l H := JL_op hW h k
theorem aS {m : Option It} {D : Option Addr → Nat → Sl} {G : Option Addr → Nat → List It} (h : OpS P n B m l H o D G) (k : ∀ A c, JL P n B ops Q rest (D A c) (G A c)) (hW : WN ops n l o true := by exact wAny) : JL P n B ops Q (o :: rest) l H := JL_opS hW h k
/-! ### Covers, loops, cuts -/
theorem cov {l' l : Sl} (h : Cov l' l := by repeat (first | exact trivial | refine ⟨rfl, ?_⟩ | refine ⟨congrArg some (by go_num), ?_⟩ | refine ⟨congrArg (fun x => some (Value.int .i64 x)) (by omega), ?_⟩)) : Cov l' l := h
theorem kJ (l' : Sl) (h : J P n B c Q l' H) (hc : Cov l' l := by exact cov) : J P n B c Q l H := J_keep hc h
theorem xL {T : Type} (φ : T → Prop) (L : T → Sl) (HH : T → List It) (μ : T → Nat) (t0 : T) (h0 : φ t0) (round : ∀ t, φ t → J P n B c (Exit.then (LI n (fun _ => B) φ L HH μ (μ t)) Q) (L t) (HH t)) (hl : Cov (L t0) l := by exact cov) (hH : Pk (HH t0) H := by repeat constructor) : J P n B (.loop c) Q l H := J_loop φ L HH μ t0 h0 hl hH round
theorem xR {T : Type} {φ : T → Prop} {L : T → Sl} {HH : T → List It} {μ : T → Nat} {m : Nat} (t : T) (h0 : φ t) (hm : μ t < m) (hl : Cov (L t) l := by exact cov) (hH : Pk (HH t) H := by repeat constructor) : JQ n B (Exit.then (LI n (fun _ => B) φ L HH μ m) Q) .normal l H := JQ_round (B := fun _ => B) t h0 hm hl hH
theorem xC {T : Type} (φ : T → Prop) (L : T → Sl) (HH : T → List It) (h1 : J P n B x (Exit.then (CutP n B φ L HH) Q) l H) (h2 : ∀ t, φ t → J P n B y Q (L t) (HH t)) : J P n B (x.seq y) Q l H := J_cut φ L HH h1 h2
theorem xE {T : Type} {φ : T → Prop} {L : T → Sl} {HH : T → List It} (t : T) (h0 : φ t) (hl : Cov (L t) l := by exact cov) (hH : Pk (HH t) H := by repeat constructor) : JQ n B (Exit.then (CutP n B φ L HH) Q) .normal l H := JQ_cut t h0 hl hH
/-! ### Panics -/
/-- A call that panics. -/
theorem aPan {f : FuncId} {args : Array Value} {ch : List PanicEntry} (he : EC P n l o f args) (hC : ∀ w, Wd B H w → Calls P f args w (fun e w' => e = .panicked ch ∧ Below w.heap.size w w')) (k : JQ n B Q (.panic ch) l H) (hW : WN ops n l o true := by exact wAny) : JL P n B ops Q (o :: rest) l H := fun a w ha hw =>
 wpList_step (fun K _ => by
  rw [if_pos (hW.D ha)]
  unfold Oper.wp
  rw [show (execOp (B.df a).eval o).run P w = _ from he a w ha]
  refine (hC w hw).mono ?_
  rintro e w' ⟨rfl, h2⟩
  exact k a w' ha (hw.up h2))
/-- A call that panics, in a region that draws its order. -/
theorem dPan {i : Nat} {f : FuncId} {args : Array Value} {ch : List PanicEntry} (hi : ops[i]? = some o) (he : EC P n l o f args) (hC : ∀ w, Wd B H w → Calls P f args w (fun e w' => e = .panicked ch ∧ Below w.heap.size w w')) (k : JQ n B Q (.panic ch) [] H) (hr : Region.ready .any ops listed = [i] := by kernel_rfl) (hW : WN ops n l o true := by exact wAny) : JD (i :: ord) P n B ops Q ld H0 lx Hx (fuel + 1) listed l H := fun a w ha hw =>
 wpAnyP_one hr (wpOp_wp hi (hW a ha) (by
  unfold Oper.wp
  rw [show (execOp (B.df a).eval o).run P w = _ from he a w ha]
  refine (hC w hw).mono ?_
  rintro e w' ⟨rfl, h2⟩
  intro a' h3 h4
  have e1 : a' = B.df { a' with defers := [] } := by cases a'; simp only [Bs.df] at h3 ⊢; rw [h3]
  rw [e1]
  exact k { a' with defers := [] } w' ⟨h4.trans ha.size, rfl, fun _ _ h => (by cases h)⟩ (hw.up h2)))
/-- panic(x). -/
theorem aPanic {x : Operand} {v : Value} {t : TypeId} (ho : o.op = .panic x) (hx : evl l x = some (.iface t v)) (k : JQ n B Q (.panic [{ v := .iface t v, recovered := false }]) l H) (hW : WN ops n l o true := by exact wAny) : JL P n B ops Q (o :: rest) l H := fun a w ha hw =>
 wpList_step (fun K _ => by
  rw [if_pos (hW.D ha)]
  have hr : (execOp (B.df a).eval o).run P w = .halt (.panic (.iface t v)) w := by
   unfold execOp; rw [ho]; simp only [ha.evD hx]; rfl
  unfold Oper.wp
  rw [hr]
  exact k a w ha hw)
theorem JR_panic {fn : Func} {R : Ending → World → Prop} {ch : List PanicEntry} (hR : ∀ w, Wd B H w → R (.panicked ch) w) (hB : B.d = [] := by rfl) : JQ n B (bodyPost P fn R) (.panic ch) l H := fun _ w _ hw => ⟨hB, hR w hw⟩
theorem JQ_then_p {K : Act → World → Prop} {ch : List PanicEntry} (h : JQ n B Q (.panic ch) l H) : JQ n B (Exit.then K Q) (.panic ch) l H := fun a w ha hw => h a w ha hw
theorem JQ_block_p {i : Nat} {ch : List PanicEntry} (h : JQ n B Q (.panic ch) l H) : JQ n B (Exit.inBlock i Q) (.panic ch) l H := fun a w ha hw => h a w ha hw
end
end Go.Proofs.YtmcpnoailbmkkaaGreatDoor
/- The walk by live slots: runs of steps; calls, new memory, in short. Over any program. -/
namespace Go.Proofs.YtmcpnoailbmkkaaGreatDoor
open Go Go.RowKit Go.Proofs Go.Shelf

section
variable {P : Program} {n : Nat} {B : Bs} {Q Q' : Exit → Act → World → Prop} {l l' : Sl} {H H' : List It} {ops : Array Oper} {rest : List Oper} {o : Oper} {c x y : Code} {ld lx ord : List Nat} {H0 Hx : List It} {fuel : Nat} {listed : Array Bool}
def isBin : Op → Bool | .binOp .. => true | _ => false
def isCall : Op → Bool | .call _ => true | _ => false
def isLoad : Op → Bool | .load .. => true | _ => false
def isStore : Op → Bool | .store .. => true | _ => false
theorem gBin {v : Value} (_hk : isBin o.op = true := by rfl) (h : RP P n l o v := by
 first
  | exact pLss rfl rfl rfl | exact pAdd rfl rfl rfl | exact pEql rfl rfl rfl | exact pNeq rfl rfl rfl | exact pLeq rfl rfl rfl | exact pGtr rfl rfl rfl | exact pGeq rfl rfl rfl
  | exact pSub rfl rfl rfl | exact pEqlS rfl rfl rfl | exact pNeqS rfl rfl rfl | exact pLssS rfl rfl rfl | exact pLeqS rfl rfl rfl | exact pMul rfl rfl rfl
  | exact pCatS rfl rfl rfl | exact pNeqK rfl rfl rfl | exact pLssK rfl rfl rfl | exact pGtrK rfl rfl rfl | exact pQuo rfl rfl rfl | exact pRem rfl rfl rfl) : RP P n l o v := h
theorem gCall {v : Value} (_hk : isCall o.op = true := by rfl) (h : RP P n l o v := by
 first | exact pLen rfl rfl | exact pLenS rfl rfl | exact pMax rfl rfl rfl | exact pMin rfl rfl rfl) : RP P n l o v := h
/-- An operation without memory. -/
theorem pAny {v : Value} (h : RP P n l o v := by
 first
  | exact rp_move rfl rfl | exact rp_assign rfl rfl | exact gBin | exact gCall | exact rp_pickT rfl rfl rfl | exact rp_pickF rfl rfl rfl | exact rp_nil rfl rfl
  | exact pFieldE rfl rfl | exact pField rfl rfl | exact pIdx rfl rfl rfl | exact pNot rfl rfl | exact pExt rfl rfl rfl | exact rp_func rfl rfl rfl) : RP P n l o v := h
/-- A read of a block that is known. -/
theorem vAny {v : Value} (_hk : isLoad o.op = true := by rfl) (h : RV P n B l H o v := by
 first
  | exact vCell rfl rfl (by repeat constructor) rfl
  | exact vAgg [_, _] rfl rfl rfl (by repeat constructor) rfl
  | exact vAgg [_, _, _] rfl rfl rfl (by repeat constructor) rfl
  | exact vAgg [_, _, _, _] rfl rfl rfl (by repeat constructor) rfl
  | exact vAgg [_, _, _, _, _] rfl rfl rfl (by repeat constructor) rfl
  | exact vAgg [_, _, _, _, _, _] rfl rfl rfl (by repeat constructor) rfl
  | exact vAgg [_, _, _, _, _, _, _] rfl rfl rfl (by repeat constructor) rfl
  | exact vAgg [_, _, _, _, _, _, _, _] rfl rfl rfl (by repeat constructor) rfl
  | exact vAgg [_] rfl rfl rfl (by repeat constructor) rfl) : RV P n B l H o v := h
/-- A store into a block that is known. -/
theorem wAnyS {m : Option It} (_hk : isStore o.op = true := by rfl) (h : OpW P n B m l H o (fun _ : Unit => True) (fun _ => l) (fun _ => H') := by
 first
  | exact wStore (cs := [_]) rfl rfl rfl rfl rfl rfl rfl (by repeat constructor) rfl rfl
  | exact wStore (cs := [_, _]) rfl rfl rfl rfl rfl rfl rfl (by repeat constructor) rfl rfl
  | exact wStore (cs := [_, _, _]) rfl rfl rfl rfl rfl rfl rfl (by repeat constructor) rfl rfl
  | exact wStore (cs := [_, _, _, _]) rfl rfl rfl rfl rfl rfl rfl (by repeat constructor) rfl rfl
  | exact wStore (cs := [_, _, _, _, _]) rfl rfl rfl rfl rfl rfl rfl (by repeat constructor) rfl rfl
  | exact wStore (cs := [_, _, _, _, _, _]) rfl rfl rfl rfl rfl rfl rfl (by repeat constructor) rfl rfl
  | exact wStore (cs := [_, _, _, _, _, _, _, _]) rfl rfl rfl rfl rfl rfl rfl (by repeat constructor) rfl rfl) : OpW P n B m l H o (fun _ : Unit => True) (fun _ => l) (fun _ => H') := h
theorem aW0 {m : Option It} (h : OpW P n B m l H o (fun _ : Unit => True) (fun _ => l) (fun _ => H')) (k : JL P n B ops Q rest l H') (hW : WN ops n l o true := by exact wAny) : JL P n B ops Q (o :: rest) l H := JL_op hW h (fun _ _ => k)
theorem dW0 {i : Nat} {m : Option It} (hi : ops[i]? = some o) (h : OpW P n B m l H o (fun _ : Unit => True) (fun _ => l) (fun _ => H')) (k : JD ord P n B ops Q ld H0 lx Hx fuel (listed.setIfInBounds i true) l H') (hr : Region.ready .any ops listed = [i] := by kernel_rfl) (hm : Kp ops ld lx Hx H i m := by first | exact trivial | exact ⟨by kernel_rfl, .inl (rfl : waitsB _ [] _ = true)⟩ | exact ⟨by kernel_rfl, .inr ⟨rfl, by repeat constructor⟩⟩) (hW : WN ops n l o true := by exact wAny) :
  JD (i :: ord) P n B ops Q ld H0 lx Hx (fuel + 1) listed l H := JA_one hr hi hW h hm (fun _ _ => k)
/-- What is left to show, in a wrap (a tactic might lay hold of it). -/
structure Wr (R : Prop) : Prop where out : R
attribute [local irreducible] J JQ JL JA JD
/-- One step: at an operation of a plain region; of a drawn one; at any place. -/
theorem a1 {R : Prop} (r : R) (h : Wr R → JL P n B ops Q (o :: rest) l H := by
 intro r
 first
  | exact aF r.out | exact aV vAny r.out | exact aW0 wAnyS r.out | exact aP pAny r.out | exact aF0 r.out) : JL P n B ops Q (o :: rest) l H := h ⟨r⟩
theorem d1 {R : Prop} (r : R) (h : Wr R → JD ord P n B ops Q ld H0 lx Hx fuel listed l H := by
 intro r
 first
  | exact dDone r.out | exact dF rfl wOff r.out | exact dL rfl vAny r.out | exact dX rfl vAny r.out | exact dW0 rfl wAnyS r.out | exact dP rfl pAny r.out | exact dFL rfl wOff r.out | exact dFX rfl wOff r.out) : JD ord P n B ops Q ld H0 lx Hx fuel listed l H := h ⟨r⟩
theorem c1 {R : Prop} (r : R) (h : Wr R → J P n B c Q l H := by
 intro r
 first
  | exact J_seq r.out | exact J_reg r.out | exact J_yes rfl rfl r.out | exact J_no rfl rfl r.out | exact J_skip r.out | exact J_block r.out | exact J_exit r.out | exact J_ret r.out | exact J_label r.out) : J P n B c Q l H := h ⟨r⟩
theorem q1 {e : Exit} {R : Prop} (r : R) (h : Wr R → JQ n B Q e l H := by
 intro r
 first
  | exact JQ_then_n r.out | exact JQ_then_x r.out | exact JQ_then_r r.out | exact JQ_block_n r.out | exact JQ_block_r r.out | exact JQ_block_y rfl r.out | exact JQ_block_x rfl r.out | exact JQ_then_p r.out | exact JQ_block_p r.out) : JQ n B Q e l H := h ⟨r⟩
theorem s1 {A R : Prop} (r : R) (h : Wr R → A := by
 intro r
 first
  | (show J _ _ _ _ _ _ _; exact c1 r.out)
  | (show JQ _ _ _ _ _ _; exact q1 r.out)
  | (show JL _ _ _ _ _ (_ :: _) _ _; exact a1 r.out)
  | (show JL _ _ _ _ _ [] _ _; exact JL_nil r.out)
  | (show JD _ _ _ _ _ _ _ _ _ _ _ _ _ _; exact d1 r.out)) : A := h ⟨r⟩
end
theorem s2 {A R : Prop} (r : R) (h : Wr R → A := by
 intro r
 iterate 2 refine s1 ?_
 exact r.out) : A := h ⟨r⟩
theorem s3 {A R : Prop} (r : R) (h : Wr R → A := by
 intro r
 iterate 3 refine s1 ?_
 exact r.out) : A := h ⟨r⟩
theorem s4 {A R : Prop} (r : R) (h : Wr R → A := by
 intro r
 iterate 4 refine s1 ?_
 exact r.out) : A := h ⟨r⟩
theorem s5 {A R : Prop} (r : R) (h : Wr R → A := by
 intro r
 iterate 5 refine s1 ?_
 exact r.out) : A := h ⟨r⟩
theorem s6 {A R : Prop} (r : R) (h : Wr R → A := by
 intro r
 iterate 6 refine s1 ?_
 exact r.out) : A := h ⟨r⟩
theorem s7 {A R : Prop} (r : R) (h : Wr R → A := by
 intro r
 iterate 7 refine s1 ?_
 exact r.out) : A := h ⟨r⟩
theorem s8 {A R : Prop} (r : R) (h : Wr R → A := by
 intro r
 iterate 8 refine s1 ?_
 exact r.out) : A := h ⟨r⟩
theorem s9 {A R : Prop} (r : R) (h : Wr R → A := by
 intro r
 iterate 9 refine s1 ?_
 exact r.out) : A := h ⟨r⟩
theorem s10 {A R : Prop} (r : R) (h : Wr R → A := by
 intro r
 iterate 10 refine s1 ?_
 exact r.out) : A := h ⟨r⟩
theorem s11 {A R : Prop} (r : R) (h : Wr R → A := by
 intro r
 iterate 11 refine s1 ?_
 exact r.out) : A := h ⟨r⟩
theorem s12 {A R : Prop} (r : R) (h : Wr R → A := by
 intro r
 iterate 12 refine s1 ?_
 exact r.out) : A := h ⟨r⟩
theorem s13 {A R : Prop} (r : R) (h : Wr R → A := by
 intro r
 iterate 13 refine s1 ?_
 exact r.out) : A := h ⟨r⟩
theorem s14 {A R : Prop} (r : R) (h : Wr R → A := by
 intro r
 iterate 14 refine s1 ?_
 exact r.out) : A := h ⟨r⟩
theorem s15 {A R : Prop} (r : R) (h : Wr R → A := by
 intro r
 iterate 15 refine s1 ?_
 exact r.out) : A := h ⟨r⟩
theorem s16 {A R : Prop} (r : R) (h : Wr R → A := by
 intro r
 iterate 16 refine s1 ?_
 exact r.out) : A := h ⟨r⟩
theorem s17 {A R : Prop} (r : R) (h : Wr R → A := by
 intro r
 iterate 17 refine s1 ?_
 exact r.out) : A := h ⟨r⟩
theorem s18 {A R : Prop} (r : R) (h : Wr R → A := by
 intro r
 iterate 18 refine s1 ?_
 exact r.out) : A := h ⟨r⟩
theorem s19 {A R : Prop} (r : R) (h : Wr R → A := by
 intro r
 iterate 19 refine s1 ?_
 exact r.out) : A := h ⟨r⟩
theorem s22 {A R : Prop} (r : R) (h : Wr R → A := by
 intro r
 iterate 22 refine s1 ?_
 exact r.out) : A := h ⟨r⟩
theorem s23 {A R : Prop} (r : R) (h : Wr R → A := by
 intro r
 iterate 23 refine s1 ?_
 exact r.out) : A := h ⟨r⟩
theorem s24 {A R : Prop} (r : R) (h : Wr R → A := by
 intro r
 iterate 24 refine s1 ?_
 exact r.out) : A := h ⟨r⟩
theorem s25 {A R : Prop} (r : R) (h : Wr R → A := by
 intro r
 iterate 25 refine s1 ?_
 exact r.out) : A := h ⟨r⟩
theorem s28 {A R : Prop} (r : R) (h : Wr R → A := by
 intro r
 iterate 28 refine s1 ?_
 exact r.out) : A := h ⟨r⟩
theorem s29 {A R : Prop} (r : R) (h : Wr R → A := by
 intro r
 iterate 29 refine s1 ?_
 exact r.out) : A := h ⟨r⟩
theorem s33 {A R : Prop} (r : R) (h : Wr R → A := by
 intro r
 iterate 33 refine s1 ?_
 exact r.out) : A := h ⟨r⟩
section
variable {P : Program} {n : Nat} {B : Bs} {Q : Exit → Act → World → Prop} {l : Sl} {H : List It} {ops : Array Oper} {rest : List Oper} {o : Oper} {ld lx ord : List Nat} {H0 Hx : List It} {fuel : Nat} {listed : Array Bool}
/-! ### Calls of functions -/
theorem ecF {f : FuncId} {xs : List Operand} {ts : Array TypeId} {vs : List Value} [h : Cf P f] (ho : o.op = .call { callee := .value (.func f), args := xs.toArray, argTypes := ts }) (hx : evs l xs = some vs) : EC P n l o f vs.toArray := ec_fn ho hx h.h
theorem oB {f : FuncId} {xs : List Operand} {ts : Array TypeId} {vs : List Value} {v : Value} {d : Nat} [h : Cf P f] (hC : ∀ w, Wd B H w → Calls P f vs.toArray w (fun e w' => e = .returned v ∧ Below w.heap.size w w')) (ho : o.op = .call { callee := .value (.func f), args := xs.toArray, argTypes := ts } := by rfl) (hx : evs l xs = some vs := by rfl) (hd : o.dst = some d := by rfl) (hn : Nat.ble n d = false := by rfl) : OpW P n B none l H o (fun _ : Unit => True) (fun _ => (d, v) :: l) (fun _ => H) := ow_callB (ecF ho hx) hd hn hC
theorem aCB {f : FuncId} {xs : List Operand} {ts : Array TypeId} {vs : List Value} {v : Value} {d : Nat} [h : Cf P f] (hC : ∀ w, Wd B H w → Calls P f vs.toArray w (fun e w' => e = .returned v ∧ Below w.heap.size w w')) (k : JL P n B ops Q rest ((d, v) :: l) H) (ho : o.op = .call { callee := .value (.func f), args := xs.toArray, argTypes := ts } := by rfl) (hx : evs l xs = some vs := by rfl) (hd : o.dst = some d := by rfl) (hW : WN ops n l o true := by exact wAny) (hn : Nat.ble n d = false := by rfl) : JL P n B ops Q (o :: rest) l H := JL_op hW (oB hC ho hx hd hn) (fun _ _ => k)
theorem dCB {i : Nat} {f : FuncId} {xs : List Operand} {ts : Array TypeId} {vs : List Value} {v : Value} {d : Nat} [h : Cf P f] (hi : ops[i]? = some o) (hC : ∀ w, Wd B H w → Calls P f vs.toArray w (fun e w' => e = .returned v ∧ Below w.heap.size w w')) (k : JD ord P n B ops Q ld H0 lx Hx fuel (listed.setIfInBounds i true) ((d, v) :: l) H) (ho : o.op = .call { callee := .value (.func f), args := xs.toArray, argTypes := ts } := by rfl) (hx : evs l xs = some vs := by rfl) (hd : o.dst = some d := by rfl) (hr : Region.ready .any ops listed = [i] := by kernel_rfl) (hW : WN ops n l o true := by exact wAny) (hn : Nat.ble n d = false := by rfl) : JD (i :: ord) P n B ops Q ld H0 lx Hx (fuel + 1) listed l H := JA_one (m := none) hr hi hW (oB hC ho hx hd hn) trivial (fun _ _ => k)
theorem Back.of {v : Value} {w w' : World} {e : Ending} (h : e = .returned v ∧ w = w') : Back v w e w' := ⟨h.1, by rw [← h.2]; exact Below.refl _ _⟩
theorem oR {f : FuncId} {xs : List Operand} {ts : Array TypeId} {vs : List Value} {T : Type} {φ : T → Prop} {V : T → Value} {G : T → List It} {d : Nat} [h : Cf P f] (hC : ∀ w, Wd B H w → Calls P f vs.toArray w (Ret w φ V G)) (ho : o.op = .call { callee := .value (.func f), args := xs.toArray, argTypes := ts } := by rfl) (hx : evs l xs = some vs := by rfl) (hd : o.dst = some d := by rfl) (hn : Nat.ble n d = false := by rfl) (hr : ∀ t, ((G t).all fun A => !A.ro) = true := by exact fun _ => rfl) : OpW P n B none l H o φ (fun t => (d, V t) :: l) (fun t => G t ++ H) := ow_callR (ecF ho hx) hd hn hr hC
theorem oS {α : Type} {ty k : Nat} {enc : α → List Value} {L : List α} {f : FuncId} {xs : List Operand} {ts : Array TypeId} {vs : List Value} {d : Nat} [h : Cf P f] (hC : ∀ w, Wd B H w → Calls P f vs.toArray w (RetS ty k enc L w)) (ho : o.op = .call { callee := .value (.func f), args := xs.toArray, argTypes := ts } := by rfl) (hx : evs l xs = some vs := by rfl) (hd : o.dst = some d := by rfl) (hn : Nat.ble n d = false := by rfl) : OpS P n B none l H o (fun A c => (d, .slice A L.length c) :: l) (fun A c => ownB ty k A L.length c (L.flatMap enc) :: H) := ow_callS (ecF ho hx) hd hn hC
theorem oM {A : It} {T : Type} {φ : T → Prop} {V : T → Value} {C : T → It} {G : T → List It} {f : FuncId} {xs : List Operand} {ts : Array TypeId} {vs : List Value} {d : Nat} [h : Cf P f] (hC : ∀ w, Wd B H w → Calls P f vs.toArray w (RetM A φ V C w)) (ho : o.op = .call { callee := .value (.func f), args := xs.toArray, argTypes := ts } := by rfl) (hx : evs l xs = some vs := by rfl) (hd : o.dst = some d := by rfl) (hn : Nat.ble n d = false := by rfl) (hAr : A.ro = false := by rfl) (hCr : ∀ t, (C t).ro = false := by exact fun _ => rfl) (hat : ∀ t, At A (C t) H (G t) := by intro t; repeat constructor) : OpW P n B (some A) l H o φ (fun t => (d, V t) :: l) G := ow_callM (ecF ho hx) hd hn hAr hCr hat hC
/-! ### New memory -/
theorem dOA (ord' : List Nat) (h : JD ord' P n B ops Q ld H0 lx Hx fuel listed l H) : JA P n B ops Q ld H0 lx Hx fuel listed l H := h
theorem oApp {α : Type} {k : Nat} {enc : α → List Value} (E : Enc k enc) {sl e ty' : TypeId} {z : Value} {bytes d : Nat} {x y : Operand} {A : Option Addr} {c c' b : Nat} {L : List α} {cs : List Value} {G : Option Addr → Nat → List It} (r : α) [u : Und P sl (.slice e)] [i : Inf P e z k bytes] (ho : o.op = .call { callee := .builtin .append, args := #[x, y], argTypes := #[sl, sl] } := by rfl) (hk : 0 < k := by decide) (hzs : z.cells.size = k := by rfl) (hby : bytes ≤ 128 := by decide) (hd : o.dst = some d := by rfl) (hn : Nat.ble n d = false := by rfl) (hx : evl l x = some (.slice A L.length c) := by rfl) (hy : evl l y = some (.slice (some ⟨b, 0, none⟩) 1 c') := by rfl) (hm : cellB b cs ty' ∈ H := by repeat constructor) (hcs : cs = enc r := by rfl) (hl : L.length + 1 ≤ 1000000 := by omega)
  (hat : ∀ A' c', At (ownB e k A L.length c (L.flatMap enc)) (ownB e k A' (L ++ [r]).length c' ((L ++ [r]).flatMap enc)) H (G A' c') := by intro A c; repeat constructor) : OpS P n B (some (ownB e k A L.length c (L.flatMap enc))) l H o (fun A' c' => (d, .slice A' (L ++ [r]).length c') :: l) G := ow_app1 E hk r u.h i.h hzs hby ho hd hn hx hy hm hcs hl hat
theorem oA {d : Nat} {ty : TypeId} {v : Value} {vs : List Value} [z : Zer P ty v] (ho : o.op = .alloc ty := by rfl) (hv : v.cells = vs.toArray := by rfl) (hd : o.dst = some d := by rfl) (hn : Nat.ble n d = false := by rfl) : OpW P n B none l H o (fun b : Nat => B.w.heap.size ≤ b) (fun b => (d, .pointer (some ⟨b, 0, none⟩)) :: l) (fun b => cellB b vs ty :: H) := ow_alloc ho hd z.h hv hn
theorem oX {d : Nat} {x : Operand} {v : Value} {ty : TypeId} (vs : List Value) (ho : o.op = .box ty x := by rfl) (hx : evl l x = some v := by rfl) (hv : v.cells = vs.toArray := by rfl) (hd : o.dst = some d := by rfl) (hn : Nat.ble n d = false := by rfl) : OpW P n B none l H o (fun b : Nat => B.w.heap.size ≤ b) (fun b => (d, .pointer (some ⟨b, 0, none⟩)) :: l) (fun b => cellB b vs ty :: H) := ow_box ho hx hv hd hn
end
end Go.Proofs.YtmcpnoailbmkkaaGreatDoor
/- Closed facts of the program, as instances. -/
namespace Go.Proofs.YtmcpnoailbmkkaaGreatDoor
open Go Go.RowKit Go.Proofs

instance : Und Tryz.prog 3 (.int .i64) := ⟨by kernel_rfl⟩
instance : Und Tryz.prog 4 .bool := ⟨by kernel_rfl⟩
instance : Und Tryz.prog 5 (.int .u8) := ⟨by kernel_rfl⟩
instance : Und Tryz.prog 9 .string := ⟨by kernel_rfl⟩
instance : Und Tryz.prog 21 (.int .i32) := ⟨by kernel_rfl⟩
instance : Und Tryz.prog 24 (.slice 43) := ⟨by kernel_rfl⟩
instance : Und Tryz.prog 28 (.slice 175) := ⟨by kernel_rfl⟩
instance : Und Tryz.prog 34 (.slice 3) := ⟨by kernel_rfl⟩
instance : Und Tryz.prog 46 (.slice 4) := ⟨by kernel_rfl⟩
instance : Und Tryz.prog 47 (.slice 9) := ⟨by kernel_rfl⟩
instance : Und Tryz.prog 51 (.slice 112) := ⟨by kernel_rfl⟩
instance : Und Tryz.prog 62 (.slice 66) := ⟨by kernel_rfl⟩
instance : Und Tryz.prog 64 (.slice 26) := ⟨by kernel_rfl⟩
instance : Und Tryz.prog 67 (.slice 78) := ⟨by kernel_rfl⟩
instance : Und Tryz.prog 68 (.array 2 3) := ⟨by kernel_rfl⟩
instance : Und Tryz.prog 69 (.slice 85) := ⟨by kernel_rfl⟩
instance : Und Tryz.prog 72 (.array 2 4) := ⟨by kernel_rfl⟩
instance : Und Tryz.prog 83 (.slice 329) := ⟨by kernel_rfl⟩
instance : Und Tryz.prog 113 (.slice 5) := ⟨by kernel_rfl⟩
instance : Und Tryz.prog 117 (.map 9 4) := ⟨by kernel_rfl⟩
instance : Und Tryz.prog 118 (.map 9 3) := ⟨by kernel_rfl⟩
instance : Und Tryz.prog 160 (.map 159 43) := ⟨by kernel_rfl⟩
instance : Und Tryz.prog 169 (.slice 173) := ⟨by kernel_rfl⟩
instance : Und Tryz.prog 179 (.map 181 4) := ⟨by kernel_rfl⟩
instance : Und Tryz.prog 201 (.map 3 4) := ⟨by kernel_rfl⟩
instance : Und Tryz.prog 210 (.slice 211) := ⟨by kernel_rfl⟩
instance : Und Tryz.prog 221 (.slice 223) := ⟨by kernel_rfl⟩
instance : Und Tryz.prog 264 (.slice 269) := ⟨by kernel_rfl⟩
instance : Und Tryz.prog 275 (.int .u64) := ⟨by kernel_rfl⟩
instance : Und Tryz.prog 294 (.array 2 293) := ⟨by kernel_rfl⟩
instance : Und Tryz.prog 297 (.map 269 4) := ⟨by kernel_rfl⟩
instance : Und Tryz.prog 356 (.map 68 4) := ⟨by kernel_rfl⟩
instance : Siz Tryz.prog 3 1 := ⟨fun _ => by kernel_rfl⟩
instance : Siz Tryz.prog 4 1 := ⟨fun _ => by kernel_rfl⟩
instance : Siz Tryz.prog 9 1 := ⟨fun _ => by kernel_rfl⟩
instance : Siz Tryz.prog 23 5 := ⟨fun _ => by kernel_rfl⟩
instance : Siz Tryz.prog 24 1 := ⟨fun _ => by kernel_rfl⟩
instance : Siz Tryz.prog 26 6 := ⟨fun _ => by kernel_rfl⟩
instance : Siz Tryz.prog 28 1 := ⟨fun _ => by kernel_rfl⟩
instance : Siz Tryz.prog 30 3 := ⟨fun _ => by kernel_rfl⟩
instance : Siz Tryz.prog 31 1 := ⟨fun _ => by kernel_rfl⟩
instance : Siz Tryz.prog 34 1 := ⟨fun _ => by kernel_rfl⟩
instance : Siz Tryz.prog 39 1 := ⟨fun _ => by kernel_rfl⟩
instance : Siz Tryz.prog 41 2 := ⟨fun _ => by kernel_rfl⟩
instance : Siz Tryz.prog 43 4 := ⟨fun _ => by kernel_rfl⟩
instance : Siz Tryz.prog 47 1 := ⟨fun _ => by kernel_rfl⟩
instance : Siz Tryz.prog 51 1 := ⟨fun _ => by kernel_rfl⟩
instance : Siz Tryz.prog 61 5 := ⟨fun _ => by kernel_rfl⟩
instance : Siz Tryz.prog 64 1 := ⟨fun _ => by kernel_rfl⟩
instance : Siz Tryz.prog 66 2 := ⟨fun _ => by kernel_rfl⟩
instance : Siz Tryz.prog 67 1 := ⟨fun _ => by kernel_rfl⟩
instance : Siz Tryz.prog 68 2 := ⟨fun _ => by kernel_rfl⟩
instance : Siz Tryz.prog 69 1 := ⟨fun _ => by kernel_rfl⟩
instance : Siz Tryz.prog 71 8 := ⟨fun _ => by kernel_rfl⟩
instance : Siz Tryz.prog 74 9 := ⟨fun _ => by kernel_rfl⟩
instance : Siz Tryz.prog 78 3 := ⟨fun _ => by kernel_rfl⟩
instance : Siz Tryz.prog 83 1 := ⟨fun _ => by kernel_rfl⟩
instance : Siz Tryz.prog 85 2 := ⟨fun _ => by kernel_rfl⟩
instance : Siz Tryz.prog 88 6 := ⟨fun _ => by kernel_rfl⟩
instance : Siz Tryz.prog 100 7 := ⟨fun _ => by kernel_rfl⟩
instance : Siz Tryz.prog 107 1 := ⟨fun _ => by kernel_rfl⟩
instance : Siz Tryz.prog 108 1 := ⟨fun _ => by kernel_rfl⟩
instance : Siz Tryz.prog 112 6 := ⟨fun _ => by kernel_rfl⟩
instance : Siz Tryz.prog 117 1 := ⟨fun _ => by kernel_rfl⟩
instance : Siz Tryz.prog 118 1 := ⟨fun _ => by kernel_rfl⟩
instance : Siz Tryz.prog 130 14 := ⟨fun _ => by kernel_rfl⟩
instance : Siz Tryz.prog 146 1 := ⟨fun _ => by kernel_rfl⟩
instance : Siz Tryz.prog 159 2 := ⟨fun _ => by kernel_rfl⟩
instance : Siz Tryz.prog 167 9 := ⟨fun _ => by kernel_rfl⟩
instance : Siz Tryz.prog 171 1 := ⟨fun _ => by kernel_rfl⟩
instance : Siz Tryz.prog 173 2 := ⟨fun _ => by kernel_rfl⟩
instance : Siz Tryz.prog 175 2 := ⟨fun _ => by kernel_rfl⟩
instance : Siz Tryz.prog 181 2 := ⟨fun _ => by kernel_rfl⟩
instance : Siz Tryz.prog 185 2 := ⟨fun _ => by kernel_rfl⟩
instance : Siz Tryz.prog 201 1 := ⟨fun _ => by kernel_rfl⟩
instance : Siz Tryz.prog 202 1 := ⟨fun _ => by kernel_rfl⟩
instance : Siz Tryz.prog 207 1 := ⟨fun _ => by kernel_rfl⟩
instance : Siz Tryz.prog 211 1 := ⟨fun _ => by kernel_rfl⟩
instance : Siz Tryz.prog 215 1 := ⟨fun _ => by kernel_rfl⟩
instance : Siz Tryz.prog 223 1 := ⟨fun _ => by kernel_rfl⟩
instance : Siz Tryz.prog 238 1 := ⟨fun _ => by kernel_rfl⟩
instance : Siz Tryz.prog 244 256 := ⟨fun _ => by kernel_rfl⟩
instance : Siz Tryz.prog 260 1 := ⟨fun _ => by kernel_rfl⟩
instance : Siz Tryz.prog 269 2 := ⟨fun _ => by kernel_rfl⟩
instance : Siz Tryz.prog 293 1 := ⟨fun _ => by kernel_rfl⟩
instance : Siz Tryz.prog 294 2 := ⟨fun _ => by kernel_rfl⟩
instance : Siz Tryz.prog 297 1 := ⟨fun _ => by kernel_rfl⟩
instance : Siz Tryz.prog 329 3 := ⟨fun _ => by kernel_rfl⟩
instance : Agg Tryz.prog 3 false := ⟨fun _ => by kernel_rfl⟩
instance : Agg Tryz.prog 4 false := ⟨fun _ => by kernel_rfl⟩
instance : Agg Tryz.prog 9 false := ⟨fun _ => by kernel_rfl⟩
instance : Agg Tryz.prog 23 true := ⟨fun _ => by kernel_rfl⟩
instance : Agg Tryz.prog 24 false := ⟨fun _ => by kernel_rfl⟩
instance : Agg Tryz.prog 26 true := ⟨fun _ => by kernel_rfl⟩
instance : Agg Tryz.prog 28 false := ⟨fun _ => by kernel_rfl⟩
instance : Agg Tryz.prog 30 true := ⟨fun _ => by kernel_rfl⟩
instance : Agg Tryz.prog 31 false := ⟨fun _ => by kernel_rfl⟩
instance : Agg Tryz.prog 34 false := ⟨fun _ => by kernel_rfl⟩
instance : Agg Tryz.prog 39 false := ⟨fun _ => by kernel_rfl⟩
instance : Agg Tryz.prog 41 true := ⟨fun _ => by kernel_rfl⟩
instance : Agg Tryz.prog 43 true := ⟨fun _ => by kernel_rfl⟩
instance : Agg Tryz.prog 47 false := ⟨fun _ => by kernel_rfl⟩
instance : Agg Tryz.prog 51 false := ⟨fun _ => by kernel_rfl⟩
instance : Agg Tryz.prog 61 true := ⟨fun _ => by kernel_rfl⟩
instance : Agg Tryz.prog 64 false := ⟨fun _ => by kernel_rfl⟩
instance : Agg Tryz.prog 67 false := ⟨fun _ => by kernel_rfl⟩
instance : Agg Tryz.prog 68 true := ⟨fun _ => by kernel_rfl⟩
instance : Agg Tryz.prog 69 false := ⟨fun _ => by kernel_rfl⟩
instance : Agg Tryz.prog 71 true := ⟨fun _ => by kernel_rfl⟩
instance : Agg Tryz.prog 74 true := ⟨fun _ => by kernel_rfl⟩
instance : Agg Tryz.prog 78 true := ⟨fun _ => by kernel_rfl⟩
instance : Agg Tryz.prog 83 false := ⟨fun _ => by kernel_rfl⟩
instance : Agg Tryz.prog 85 true := ⟨fun _ => by kernel_rfl⟩
instance : Agg Tryz.prog 88 true := ⟨fun _ => by kernel_rfl⟩
instance : Agg Tryz.prog 100 true := ⟨fun _ => by kernel_rfl⟩
instance : Agg Tryz.prog 107 false := ⟨fun _ => by kernel_rfl⟩
instance : Agg Tryz.prog 108 false := ⟨fun _ => by kernel_rfl⟩
instance : Agg Tryz.prog 112 true := ⟨fun _ => by kernel_rfl⟩
instance : Agg Tryz.prog 117 false := ⟨fun _ => by kernel_rfl⟩
instance : Agg Tryz.prog 118 false := ⟨fun _ => by kernel_rfl⟩
instance : Agg Tryz.prog 146 false := ⟨fun _ => by kernel_rfl⟩
instance : Agg Tryz.prog 159 true := ⟨fun _ => by kernel_rfl⟩
instance : Agg Tryz.prog 167 true := ⟨fun _ => by kernel_rfl⟩
instance : Agg Tryz.prog 171 false := ⟨fun _ => by kernel_rfl⟩
instance : Agg Tryz.prog 173 true := ⟨fun _ => by kernel_rfl⟩
instance : Agg Tryz.prog 175 true := ⟨fun _ => by kernel_rfl⟩
instance : Agg Tryz.prog 181 true := ⟨fun _ => by kernel_rfl⟩
instance : Agg Tryz.prog 201 false := ⟨fun _ => by kernel_rfl⟩
instance : Agg Tryz.prog 202 false := ⟨fun _ => by kernel_rfl⟩
instance : Agg Tryz.prog 207 false := ⟨fun _ => by kernel_rfl⟩
instance : Agg Tryz.prog 211 false := ⟨fun _ => by kernel_rfl⟩
instance : Agg Tryz.prog 215 false := ⟨fun _ => by kernel_rfl⟩
instance : Agg Tryz.prog 223 false := ⟨fun _ => by kernel_rfl⟩
instance : Agg Tryz.prog 238 false := ⟨fun _ => by kernel_rfl⟩
instance : Agg Tryz.prog 260 false := ⟨fun _ => by kernel_rfl⟩
instance : Agg Tryz.prog 269 true := ⟨fun _ => by kernel_rfl⟩
instance : Agg Tryz.prog 293 false := ⟨fun _ => by kernel_rfl⟩
instance : Agg Tryz.prog 294 true := ⟨fun _ => by kernel_rfl⟩
instance : Agg Tryz.prog 297 false := ⟨fun _ => by kernel_rfl⟩
instance : Agg Tryz.prog 329 true := ⟨fun _ => by kernel_rfl⟩
instance : Zer Tryz.prog 3 (.int .i64 0) := ⟨fun _ => by kernel_rfl⟩
instance : Zer Tryz.prog 4 (.bool false) := ⟨fun _ => by kernel_rfl⟩
instance : Zer Tryz.prog 24 (.slice none 0 0) := ⟨fun _ => by kernel_rfl⟩
instance : Zer Tryz.prog 26 (.agg #[.int .i64 0, .int .i64 0, .bool false, .bool false, .int .i64 0, .slice none 0 0]) := ⟨fun _ => by kernel_rfl⟩
instance : Zer Tryz.prog 30 (.agg #[.int .i64 0, .int .i64 0, .slice none 0 0]) := ⟨fun _ => by kernel_rfl⟩
instance : Zer Tryz.prog 31 (.int .i64 0) := ⟨fun _ => by kernel_rfl⟩
instance : Zer Tryz.prog 34 (.slice none 0 0) := ⟨fun _ => by kernel_rfl⟩
instance : Zer Tryz.prog 43 (.agg #[.int .i64 0, .int .i64 0, .int .i64 0, .int .i64 0]) := ⟨fun _ => by kernel_rfl⟩
instance : Zer Tryz.prog 47 (.slice none 0 0) := ⟨fun _ => by kernel_rfl⟩
instance : Zer Tryz.prog 68 (.agg #[.int .i64 0, .int .i64 0]) := ⟨fun _ => by kernel_rfl⟩
instance : Zer Tryz.prog 71 (.agg #[.int .i64 0, .int .i64 0, .int .i64 0, .slice none 0 0, .int .i64 0, .int .i64 0, .int .i64 0, .slice none 0 0]) := ⟨fun _ => by kernel_rfl⟩
instance : Zer Tryz.prog 74 (.agg #[.int .i64 0, .int .i64 0, .int .i64 0, .int .i64 0, .int .i64 0, .bool false, .bool false, .bool false, .bool false]) := ⟨fun _ => by kernel_rfl⟩
instance : Zer Tryz.prog 78 (.agg #[.int .i64 0, .int .i64 0, .bool false]) := ⟨fun _ => by kernel_rfl⟩
instance : Zer Tryz.prog 85 (.agg #[.string ⟨#[]⟩, .slice none 0 0]) := ⟨fun _ => by kernel_rfl⟩
instance : Zer Tryz.prog 88 (.agg #[.int .i64 0, .int .i64 0, .int .i64 0, .int .i64 0, .int .i64 0, .int .i64 0]) := ⟨fun _ => by kernel_rfl⟩
instance : Zer Tryz.prog 100 (.agg #[.int .i64 0, .int .i64 0, .int .i64 0, .int .i64 0, .bool false, .int .i64 0, .int .i64 0]) := ⟨fun _ => by kernel_rfl⟩
instance : Zer Tryz.prog 107 (.pointer none) := ⟨fun _ => by kernel_rfl⟩
instance : Zer Tryz.prog 112 (.agg #[.string ⟨#[]⟩, .int .i64 0, .int .i64 0, .slice none 0 0, .slice none 0 0, .string ⟨#[]⟩]) := ⟨fun _ => by kernel_rfl⟩
instance : Zer Tryz.prog 130 (.agg #[.int .i64 0, .int .i64 0, .int .i64 0, .int .i64 0, .int .i64 0, .bool false, .bool false, .bool false, .bool false, .int .i64 0, .int .i64 0, .int .i64 0, .bool false, .bool false]) := ⟨fun _ => by kernel_rfl⟩
instance : Zer Tryz.prog 144 (.agg #[.pointer none, .slice none 0 0]) := ⟨fun _ => by kernel_rfl⟩
instance : Zer Tryz.prog 159 (.agg #[.int .i64 0, .int .i64 0]) := ⟨fun _ => by kernel_rfl⟩
instance : Zer Tryz.prog 167 (.agg #[.int .i64 0, .int .i64 0, .bool false, .bool false, .int .i64 0, .slice none 0 0, .bool false, .bool false, .bool false]) := ⟨fun _ => by kernel_rfl⟩
instance : Zer Tryz.prog 173 (.agg #[.int .i64 0, .nilFunc]) := ⟨fun _ => by kernel_rfl⟩
instance : Zer Tryz.prog 175 (.agg #[.slice none 0 0, .bool false]) := ⟨fun _ => by kernel_rfl⟩
instance : Zer Tryz.prog 181 (.agg #[.int .i64 0, .int .i64 0]) := ⟨fun _ => by kernel_rfl⟩
instance : Zer Tryz.prog 185 (.agg #[.int .i64 0, .int .i64 0]) := ⟨fun _ => by kernel_rfl⟩
instance : Zer Tryz.prog 201 (.map none) := ⟨fun _ => by kernel_rfl⟩
instance : Zer Tryz.prog 202 (.nilFunc) := ⟨fun _ => by kernel_rfl⟩
instance : Zer Tryz.prog 244 (.agg #[.bool false, .bool false, .bool false, .bool false, .bool false, .bool false, .bool false, .bool false, .bool false, .bool false, .bool false, .bool false, .bool false, .bool false, .bool false, .bool false, .bool false, .bool false, .bool false, .bool false, .bool false, .bool false, .bool false, .bool false, .bool false, .bool false, .bool false, .bool false, .bool false, .bool false, .bool false, .bool false, .bool false, .bool false, .bool false, .bool false, .bool false, .bool false, .bool false, .bool false, .bool false, .bool false, .bool false, .bool false, .bool false, .bool false, .bool false, .bool false, .bool false, .bool false, .bool false, .bool false, .bool false, .bool false, .bool false, .bool false, .bool false, .bool false, .bool false, .bool false, .bool false, .bool false, .bool false, .bool false, .bool false, .bool false, .bool false, .bool false, .bool false, .bool false, .bool false, .bool false, .bool false, .bool false, .bool false, .bool false, .bool false, .bool false, .bool false, .bool false, .bool false, .bool false, .bool false, .bool false, .bool false, .bool false, .bool false, .bool false, .bool false, .bool false, .bool false, .bool false, .bool false, .bool false, .bool false, .bool false, .bool false, .bool false, .bool false, .bool false, .bool false, .bool false, .bool false, .bool false, .bool false, .bool false, .bool false, .bool false, .bool false, .bool false, .bool false, .bool false, .bool false, .bool false, .bool false, .bool false, .bool false, .bool false, .bool false, .bool false, .bool false, .bool false, .bool false, .bool false, .bool false, .bool false, .bool false, .bool false, .bool false, .bool false, .bool false, .bool false, .bool false, .bool false, .bool false, .bool false, .bool false, .bool false, .bool false, .bool false, .bool false, .bool false, .bool false, .bool false, .bool false, .bool false, .bool false, .bool false, .bool false, .bool false, .bool false, .bool false, .bool false, .bool false, .bool false, .bool false, .bool false, .bool false, .bool false, .bool false, .bool false, .bool false, .bool false, .bool false, .bool false, .bool false, .bool false, .bool false, .bool false, .bool false, .bool false, .bool false, .bool false, .bool false, .bool false, .bool false, .bool false, .bool false, .bool false, .bool false, .bool false, .bool false, .bool false, .bool false, .bool false, .bool false, .bool false, .bool false, .bool false, .bool false, .bool false, .bool false, .bool false, .bool false, .bool false, .bool false, .bool false, .bool false, .bool false, .bool false, .bool false, .bool false, .bool false, .bool false, .bool false, .bool false, .bool false, .bool false, .bool false, .bool false, .bool false, .bool false, .bool false, .bool false, .bool false, .bool false, .bool false, .bool false, .bool false, .bool false, .bool false, .bool false, .bool false, .bool false, .bool false, .bool false, .bool false, .bool false, .bool false, .bool false, .bool false, .bool false, .bool false, .bool false, .bool false, .bool false, .bool false, .bool false, .bool false, .bool false, .bool false, .bool false, .bool false, .bool false, .bool false, .bool false, .bool false, .bool false, .bool false, .bool false, .bool false, .bool false, .bool false, .bool false, .bool false, .bool false]) := ⟨fun _ => by kernel_rfl⟩
instance : Zer Tryz.prog 260 (.nilFunc) := ⟨fun _ => by kernel_rfl⟩
instance : Zer Tryz.prog 269 (.agg #[.int .i64 0, .int .i64 0]) := ⟨fun _ => by kernel_rfl⟩
instance : Zer Tryz.prog 297 (.map none) := ⟨fun _ => by kernel_rfl⟩
instance : Zer Tryz.prog 329 (.agg #[.int .i64 0, .int .i64 0, .int .i64 0]) := ⟨fun _ => by kernel_rfl⟩
instance : Fof Tryz.prog 23 0 0 := ⟨fun _ _ _ => by kernel_rfl⟩
instance : Fof Tryz.prog 23 1 1 := ⟨fun _ _ _ => by kernel_rfl⟩
instance : Fof Tryz.prog 23 2 2 := ⟨fun _ _ _ => by kernel_rfl⟩
instance : Fof Tryz.prog 23 3 3 := ⟨fun _ _ _ => by kernel_rfl⟩
instance : Fof Tryz.prog 23 4 4 := ⟨fun _ _ _ => by kernel_rfl⟩
instance : Fof Tryz.prog 26 0 0 := ⟨fun _ _ _ => by kernel_rfl⟩
instance : Fof Tryz.prog 26 1 1 := ⟨fun _ _ _ => by kernel_rfl⟩
instance : Fof Tryz.prog 26 2 2 := ⟨fun _ _ _ => by kernel_rfl⟩
instance : Fof Tryz.prog 26 3 3 := ⟨fun _ _ _ => by kernel_rfl⟩
instance : Fof Tryz.prog 26 4 4 := ⟨fun _ _ _ => by kernel_rfl⟩
instance : Fof Tryz.prog 26 5 5 := ⟨fun _ _ _ => by kernel_rfl⟩
instance : Fof Tryz.prog 30 0 0 := ⟨fun _ _ _ => by kernel_rfl⟩
instance : Fof Tryz.prog 30 1 1 := ⟨fun _ _ _ => by kernel_rfl⟩
instance : Fof Tryz.prog 30 2 2 := ⟨fun _ _ _ => by kernel_rfl⟩
instance : Fof Tryz.prog 41 0 0 := ⟨fun _ _ _ => by kernel_rfl⟩
instance : Fof Tryz.prog 41 1 1 := ⟨fun _ _ _ => by kernel_rfl⟩
instance : Fof Tryz.prog 43 0 0 := ⟨fun _ _ _ => by kernel_rfl⟩
instance : Fof Tryz.prog 43 1 1 := ⟨fun _ _ _ => by kernel_rfl⟩
instance : Fof Tryz.prog 43 2 2 := ⟨fun _ _ _ => by kernel_rfl⟩
instance : Fof Tryz.prog 61 0 0 := ⟨fun _ _ _ => by kernel_rfl⟩
instance : Fof Tryz.prog 61 1 1 := ⟨fun _ _ _ => by kernel_rfl⟩
instance : Fof Tryz.prog 61 2 2 := ⟨fun _ _ _ => by kernel_rfl⟩
instance : Fof Tryz.prog 61 3 3 := ⟨fun _ _ _ => by kernel_rfl⟩
instance : Fof Tryz.prog 61 4 4 := ⟨fun _ _ _ => by kernel_rfl⟩
instance : Fof Tryz.prog 66 0 0 := ⟨fun _ _ _ => by kernel_rfl⟩
instance : Fof Tryz.prog 66 1 1 := ⟨fun _ _ _ => by kernel_rfl⟩
instance : Fof Tryz.prog 71 0 0 := ⟨fun _ _ _ => by kernel_rfl⟩
instance : Fof Tryz.prog 71 1 1 := ⟨fun _ _ _ => by kernel_rfl⟩
instance : Fof Tryz.prog 71 2 2 := ⟨fun _ _ _ => by kernel_rfl⟩
instance : Fof Tryz.prog 71 3 3 := ⟨fun _ _ _ => by kernel_rfl⟩
instance : Fof Tryz.prog 71 4 4 := ⟨fun _ _ _ => by kernel_rfl⟩
instance : Fof Tryz.prog 71 5 5 := ⟨fun _ _ _ => by kernel_rfl⟩
instance : Fof Tryz.prog 71 6 7 := ⟨fun _ _ _ => by kernel_rfl⟩
instance : Fof Tryz.prog 74 0 0 := ⟨fun _ _ _ => by kernel_rfl⟩
instance : Fof Tryz.prog 74 1 2 := ⟨fun _ _ _ => by kernel_rfl⟩
instance : Fof Tryz.prog 74 2 3 := ⟨fun _ _ _ => by kernel_rfl⟩
instance : Fof Tryz.prog 74 3 4 := ⟨fun _ _ _ => by kernel_rfl⟩
instance : Fof Tryz.prog 74 4 5 := ⟨fun _ _ _ => by kernel_rfl⟩
instance : Fof Tryz.prog 74 5 6 := ⟨fun _ _ _ => by kernel_rfl⟩
instance : Fof Tryz.prog 74 6 7 := ⟨fun _ _ _ => by kernel_rfl⟩
instance : Fof Tryz.prog 78 0 0 := ⟨fun _ _ _ => by kernel_rfl⟩
instance : Fof Tryz.prog 78 1 1 := ⟨fun _ _ _ => by kernel_rfl⟩
instance : Fof Tryz.prog 78 2 2 := ⟨fun _ _ _ => by kernel_rfl⟩
instance : Fof Tryz.prog 85 0 0 := ⟨fun _ _ _ => by kernel_rfl⟩
instance : Fof Tryz.prog 85 1 1 := ⟨fun _ _ _ => by kernel_rfl⟩
instance : Fof Tryz.prog 88 2 2 := ⟨fun _ _ _ => by kernel_rfl⟩
instance : Fof Tryz.prog 100 0 0 := ⟨fun _ _ _ => by kernel_rfl⟩
instance : Fof Tryz.prog 100 1 5 := ⟨fun _ _ _ => by kernel_rfl⟩
instance : Fof Tryz.prog 100 2 6 := ⟨fun _ _ _ => by kernel_rfl⟩
instance : Fof Tryz.prog 112 0 0 := ⟨fun _ _ _ => by kernel_rfl⟩
instance : Fof Tryz.prog 112 1 1 := ⟨fun _ _ _ => by kernel_rfl⟩
instance : Fof Tryz.prog 112 2 2 := ⟨fun _ _ _ => by kernel_rfl⟩
instance : Fof Tryz.prog 112 3 3 := ⟨fun _ _ _ => by kernel_rfl⟩
instance : Fof Tryz.prog 112 4 4 := ⟨fun _ _ _ => by kernel_rfl⟩
instance : Fof Tryz.prog 112 5 5 := ⟨fun _ _ _ => by kernel_rfl⟩
instance : Fof Tryz.prog 120 0 0 := ⟨fun _ _ _ => by kernel_rfl⟩
instance : Fof Tryz.prog 120 1 1 := ⟨fun _ _ _ => by kernel_rfl⟩
instance : Fof Tryz.prog 120 2 2 := ⟨fun _ _ _ => by kernel_rfl⟩
instance : Fof Tryz.prog 120 3 3 := ⟨fun _ _ _ => by kernel_rfl⟩
instance : Fof Tryz.prog 120 4 4 := ⟨fun _ _ _ => by kernel_rfl⟩
instance : Fof Tryz.prog 120 5 5 := ⟨fun _ _ _ => by kernel_rfl⟩
instance : Fof Tryz.prog 130 0 0 := ⟨fun _ _ _ => by kernel_rfl⟩
instance : Fof Tryz.prog 130 1 9 := ⟨fun _ _ _ => by kernel_rfl⟩
instance : Fof Tryz.prog 167 0 0 := ⟨fun _ _ _ => by kernel_rfl⟩
instance : Fof Tryz.prog 167 1 6 := ⟨fun _ _ _ => by kernel_rfl⟩
instance : Fof Tryz.prog 167 2 7 := ⟨fun _ _ _ => by kernel_rfl⟩
instance : Fof Tryz.prog 167 3 8 := ⟨fun _ _ _ => by kernel_rfl⟩
instance : Fof Tryz.prog 173 0 0 := ⟨fun _ _ _ => by kernel_rfl⟩
instance : Fof Tryz.prog 173 1 1 := ⟨fun _ _ _ => by kernel_rfl⟩
instance : Fof Tryz.prog 175 0 0 := ⟨fun _ _ _ => by kernel_rfl⟩
instance : Fof Tryz.prog 175 1 1 := ⟨fun _ _ _ => by kernel_rfl⟩
instance : Fof Tryz.prog 185 0 0 := ⟨fun _ _ _ => by kernel_rfl⟩
instance : Fof Tryz.prog 185 1 1 := ⟨fun _ _ _ => by kernel_rfl⟩
instance : Fof Tryz.prog 189 0 0 := ⟨fun _ _ _ => by kernel_rfl⟩
instance : Fof Tryz.prog 189 1 1 := ⟨fun _ _ _ => by kernel_rfl⟩
instance : Fof Tryz.prog 189 2 2 := ⟨fun _ _ _ => by kernel_rfl⟩
instance : Fof Tryz.prog 217 0 0 := ⟨fun _ _ _ => by kernel_rfl⟩
instance : Fof Tryz.prog 217 1 5 := ⟨fun _ _ _ => by kernel_rfl⟩
instance : Fof Tryz.prog 217 2 6 := ⟨fun _ _ _ => by kernel_rfl⟩
instance : Fof Tryz.prog 217 3 7 := ⟨fun _ _ _ => by kernel_rfl⟩
instance : Fof Tryz.prog 217 4 8 := ⟨fun _ _ _ => by kernel_rfl⟩
instance : Fof Tryz.prog 217 5 9 := ⟨fun _ _ _ => by kernel_rfl⟩
instance : Fof Tryz.prog 269 0 0 := ⟨fun _ _ _ => by kernel_rfl⟩
instance : Fof Tryz.prog 269 1 1 := ⟨fun _ _ _ => by kernel_rfl⟩
instance : Fof Tryz.prog 329 0 0 := ⟨fun _ _ _ => by kernel_rfl⟩
instance : Fof Tryz.prog 329 1 1 := ⟨fun _ _ _ => by kernel_rfl⟩
instance : Fof Tryz.prog 329 2 2 := ⟨fun _ _ _ => by kernel_rfl⟩
instance : Inf Tryz.prog 3 (.int .i64 0) 1 8 := ⟨by kernel_rfl⟩
instance : Inf Tryz.prog 9 (.string ⟨#[]⟩) 1 16 := ⟨by kernel_rfl⟩
instance : Inf Tryz.prog 43 (.agg #[.int .i64 0, .int .i64 0, .int .i64 0, .int .i64 0]) 4 32 := ⟨by kernel_rfl⟩
instance : Inf Tryz.prog 78 (.agg #[.int .i64 0, .int .i64 0, .bool false]) 3 24 := ⟨by kernel_rfl⟩
instance : Inf Tryz.prog 85 (.agg #[.string ⟨#[]⟩, .slice none 0 0]) 2 40 := ⟨by kernel_rfl⟩
instance : Inf Tryz.prog 112 (.agg #[.string ⟨#[]⟩, .int .i64 0, .int .i64 0, .slice none 0 0, .slice none 0 0, .string ⟨#[]⟩]) 6 96 := ⟨by kernel_rfl⟩
instance : Inf Tryz.prog 175 (.agg #[.slice none 0 0, .bool false]) 2 32 := ⟨by kernel_rfl⟩
instance : Inf Tryz.prog 269 (.agg #[.int .i64 0, .int .i64 0]) 2 16 := ⟨by kernel_rfl⟩
instance : Inf Tryz.prog 329 (.agg #[.int .i64 0, .int .i64 0, .int .i64 0]) 3 24 := ⟨by kernel_rfl⟩
instance : Cf Tryz.prog 5 := ⟨fun _ _ => by kernel_rfl⟩
instance : Cf Tryz.prog 6 := ⟨fun _ _ => by kernel_rfl⟩
instance : Cf Tryz.prog 7 := ⟨fun _ _ => by kernel_rfl⟩
instance : Cf Tryz.prog 8 := ⟨fun _ _ => by kernel_rfl⟩
instance : Cf Tryz.prog 9 := ⟨fun _ _ => by kernel_rfl⟩
instance : Cf Tryz.prog 10 := ⟨fun _ _ => by kernel_rfl⟩
instance : Cf Tryz.prog 11 := ⟨fun _ _ => by kernel_rfl⟩
instance : Cf Tryz.prog 12 := ⟨fun _ _ => by kernel_rfl⟩
instance : Cf Tryz.prog 13 := ⟨fun _ _ => by kernel_rfl⟩
instance : Cf Tryz.prog 14 := ⟨fun _ _ => by kernel_rfl⟩
instance : Cf Tryz.prog 15 := ⟨fun _ _ => by kernel_rfl⟩
instance : Cf Tryz.prog 16 := ⟨fun _ _ => by kernel_rfl⟩
instance : Cf Tryz.prog 17 := ⟨fun _ _ => by kernel_rfl⟩
instance : Cf Tryz.prog 18 := ⟨fun _ _ => by kernel_rfl⟩
instance : Cf Tryz.prog 19 := ⟨fun _ _ => by kernel_rfl⟩
instance : Cf Tryz.prog 20 := ⟨fun _ _ => by kernel_rfl⟩
instance : Cf Tryz.prog 21 := ⟨fun _ _ => by kernel_rfl⟩
instance : Cf Tryz.prog 22 := ⟨fun _ _ => by kernel_rfl⟩
instance : Cf Tryz.prog 23 := ⟨fun _ _ => by kernel_rfl⟩
instance : Cf Tryz.prog 24 := ⟨fun _ _ => by kernel_rfl⟩
instance : Cf Tryz.prog 25 := ⟨fun _ _ => by kernel_rfl⟩
instance : Cf Tryz.prog 26 := ⟨fun _ _ => by kernel_rfl⟩
instance : Cf Tryz.prog 27 := ⟨fun _ _ => by kernel_rfl⟩
instance : Cf Tryz.prog 28 := ⟨fun _ _ => by kernel_rfl⟩
instance : Cf Tryz.prog 29 := ⟨fun _ _ => by kernel_rfl⟩
instance : Cf Tryz.prog 30 := ⟨fun _ _ => by kernel_rfl⟩
instance : Cf Tryz.prog 31 := ⟨fun _ _ => by kernel_rfl⟩
instance : Cf Tryz.prog 32 := ⟨fun _ _ => by kernel_rfl⟩
instance : Cf Tryz.prog 33 := ⟨fun _ _ => by kernel_rfl⟩
instance : Cf Tryz.prog 34 := ⟨fun _ _ => by kernel_rfl⟩
instance : Cf Tryz.prog 35 := ⟨fun _ _ => by kernel_rfl⟩
instance : Cf Tryz.prog 36 := ⟨fun _ _ => by kernel_rfl⟩
instance : Cf Tryz.prog 37 := ⟨fun _ _ => by kernel_rfl⟩
instance : Cf Tryz.prog 38 := ⟨fun _ _ => by kernel_rfl⟩
instance : Cf Tryz.prog 39 := ⟨fun _ _ => by kernel_rfl⟩
instance : Cf Tryz.prog 40 := ⟨fun _ _ => by kernel_rfl⟩
instance : Cf Tryz.prog 41 := ⟨fun _ _ => by kernel_rfl⟩
instance : Cf Tryz.prog 42 := ⟨fun _ _ => by kernel_rfl⟩
instance : Cf Tryz.prog 43 := ⟨fun _ _ => by kernel_rfl⟩
instance : Cf Tryz.prog 44 := ⟨fun _ _ => by kernel_rfl⟩
instance : Cf Tryz.prog 45 := ⟨fun _ _ => by kernel_rfl⟩
instance : Cf Tryz.prog 46 := ⟨fun _ _ => by kernel_rfl⟩
instance : Cf Tryz.prog 47 := ⟨fun _ _ => by kernel_rfl⟩
instance : Cf Tryz.prog 48 := ⟨fun _ _ => by kernel_rfl⟩
instance : Cf Tryz.prog 49 := ⟨fun _ _ => by kernel_rfl⟩
instance : Cf Tryz.prog 50 := ⟨fun _ _ => by kernel_rfl⟩
instance : Cf Tryz.prog 51 := ⟨fun _ _ => by kernel_rfl⟩
instance : Cf Tryz.prog 52 := ⟨fun _ _ => by kernel_rfl⟩
instance : Cf Tryz.prog 53 := ⟨fun _ _ => by kernel_rfl⟩
instance : Cf Tryz.prog 54 := ⟨fun _ _ => by kernel_rfl⟩
instance : Cf Tryz.prog 55 := ⟨fun _ _ => by kernel_rfl⟩
instance : Cf Tryz.prog 56 := ⟨fun _ _ => by kernel_rfl⟩
instance : Cf Tryz.prog 57 := ⟨fun _ _ => by kernel_rfl⟩
instance : Cf Tryz.prog 58 := ⟨fun _ _ => by kernel_rfl⟩
instance : Cf Tryz.prog 59 := ⟨fun _ _ => by kernel_rfl⟩
instance : Cf Tryz.prog 60 := ⟨fun _ _ => by kernel_rfl⟩
instance : Cf Tryz.prog 61 := ⟨fun _ _ => by kernel_rfl⟩
instance : Cf Tryz.prog 62 := ⟨fun _ _ => by kernel_rfl⟩
instance : Cf Tryz.prog 63 := ⟨fun _ _ => by kernel_rfl⟩
instance : Cf Tryz.prog 64 := ⟨fun _ _ => by kernel_rfl⟩
instance : Cf Tryz.prog 65 := ⟨fun _ _ => by kernel_rfl⟩
instance : Cf Tryz.prog 66 := ⟨fun _ _ => by kernel_rfl⟩
instance : Cf Tryz.prog 67 := ⟨fun _ _ => by kernel_rfl⟩
instance : Cf Tryz.prog 68 := ⟨fun _ _ => by kernel_rfl⟩
instance : Cf Tryz.prog 69 := ⟨fun _ _ => by kernel_rfl⟩
instance : Cf Tryz.prog 70 := ⟨fun _ _ => by kernel_rfl⟩
instance : Cf Tryz.prog 71 := ⟨fun _ _ => by kernel_rfl⟩
instance : Cf Tryz.prog 72 := ⟨fun _ _ => by kernel_rfl⟩
instance : Cf Tryz.prog 73 := ⟨fun _ _ => by kernel_rfl⟩
instance : Cf Tryz.prog 74 := ⟨fun _ _ => by kernel_rfl⟩
instance : Cf Tryz.prog 75 := ⟨fun _ _ => by kernel_rfl⟩
instance : Cf Tryz.prog 76 := ⟨fun _ _ => by kernel_rfl⟩
instance : Cf Tryz.prog 78 := ⟨fun _ _ => by kernel_rfl⟩
instance : Cf Tryz.prog 79 := ⟨fun _ _ => by kernel_rfl⟩
instance : Cf Tryz.prog 80 := ⟨fun _ _ => by kernel_rfl⟩
instance : Cf Tryz.prog 81 := ⟨fun _ _ => by kernel_rfl⟩
instance : Cf Tryz.prog 82 := ⟨fun _ _ => by kernel_rfl⟩
instance : Cf Tryz.prog 83 := ⟨fun _ _ => by kernel_rfl⟩
instance : Cf Tryz.prog 84 := ⟨fun _ _ => by kernel_rfl⟩
instance : Cf Tryz.prog 85 := ⟨fun _ _ => by kernel_rfl⟩
instance : Cf Tryz.prog 86 := ⟨fun _ _ => by kernel_rfl⟩
instance : Cf Tryz.prog 87 := ⟨fun _ _ => by kernel_rfl⟩
instance : Cf Tryz.prog 88 := ⟨fun _ _ => by kernel_rfl⟩
instance : Cf Tryz.prog 89 := ⟨fun _ _ => by kernel_rfl⟩
instance : Cf Tryz.prog 90 := ⟨fun _ _ => by kernel_rfl⟩
instance : Cf Tryz.prog 91 := ⟨fun _ _ => by kernel_rfl⟩
instance : Cf Tryz.prog 92 := ⟨fun _ _ => by kernel_rfl⟩
instance : Cf Tryz.prog 93 := ⟨fun _ _ => by kernel_rfl⟩
instance : Cf Tryz.prog 94 := ⟨fun _ _ => by kernel_rfl⟩
instance : Cf Tryz.prog 95 := ⟨fun _ _ => by kernel_rfl⟩
instance : Cf Tryz.prog 96 := ⟨fun _ _ => by kernel_rfl⟩
instance : Cf Tryz.prog 97 := ⟨fun _ _ => by kernel_rfl⟩
instance : Cf Tryz.prog 98 := ⟨fun _ _ => by kernel_rfl⟩
instance : Cf Tryz.prog 99 := ⟨fun _ _ => by kernel_rfl⟩
instance : Cf Tryz.prog 100 := ⟨fun _ _ => by kernel_rfl⟩
instance : Cf Tryz.prog 101 := ⟨fun _ _ => by kernel_rfl⟩
instance : Cf Tryz.prog 102 := ⟨fun _ _ => by kernel_rfl⟩
instance : Cf Tryz.prog 103 := ⟨fun _ _ => by kernel_rfl⟩
instance : Cf Tryz.prog 104 := ⟨fun _ _ => by kernel_rfl⟩
instance : Cf Tryz.prog 105 := ⟨fun _ _ => by kernel_rfl⟩
instance : Cf Tryz.prog 106 := ⟨fun _ _ => by kernel_rfl⟩
instance : Cf Tryz.prog 107 := ⟨fun _ _ => by kernel_rfl⟩
instance : Cf Tryz.prog 108 := ⟨fun _ _ => by kernel_rfl⟩
instance : Cf Tryz.prog 110 := ⟨fun _ _ => by kernel_rfl⟩
instance : Cf Tryz.prog 111 := ⟨fun _ _ => by kernel_rfl⟩
instance : Cf Tryz.prog 112 := ⟨fun _ _ => by kernel_rfl⟩
instance : Cf Tryz.prog 113 := ⟨fun _ _ => by kernel_rfl⟩
instance : Cf Tryz.prog 114 := ⟨fun _ _ => by kernel_rfl⟩
instance : Cf Tryz.prog 115 := ⟨fun _ _ => by kernel_rfl⟩
instance : Cf Tryz.prog 116 := ⟨fun _ _ => by kernel_rfl⟩
instance : Cf Tryz.prog 117 := ⟨fun _ _ => by kernel_rfl⟩
instance : Cf Tryz.prog 118 := ⟨fun _ _ => by kernel_rfl⟩
instance : Cf Tryz.prog 119 := ⟨fun _ _ => by kernel_rfl⟩
instance : Cf Tryz.prog 122 := ⟨fun _ _ => by kernel_rfl⟩
instance : Cf Tryz.prog 128 := ⟨fun _ _ => by kernel_rfl⟩
instance : Cf Tryz.prog 129 := ⟨fun _ _ => by kernel_rfl⟩
instance : Cf Tryz.prog 130 := ⟨fun _ _ => by kernel_rfl⟩
instance : Cf Tryz.prog 131 := ⟨fun _ _ => by kernel_rfl⟩
instance : Cf Tryz.prog 133 := ⟨fun _ _ => by kernel_rfl⟩
instance : Cf Tryz.prog 134 := ⟨fun _ _ => by kernel_rfl⟩
instance : Cf Tryz.prog 135 := ⟨fun _ _ => by kernel_rfl⟩
instance : Cf Tryz.prog 136 := ⟨fun _ _ => by kernel_rfl⟩
instance : Cf Tryz.prog 137 := ⟨fun _ _ => by kernel_rfl⟩
instance : Cf Tryz.prog 140 := ⟨fun _ _ => by kernel_rfl⟩
instance : Cf Tryz.prog 141 := ⟨fun _ _ => by kernel_rfl⟩
instance : Cf Tryz.prog 142 := ⟨fun _ _ => by kernel_rfl⟩
instance : Cf Tryz.prog 143 := ⟨fun _ _ => by kernel_rfl⟩
instance : Cf Tryz.prog 144 := ⟨fun _ _ => by kernel_rfl⟩
instance : Cf Tryz.prog 145 := ⟨fun _ _ => by kernel_rfl⟩
instance : Cf Tryz.prog 146 := ⟨fun _ _ => by kernel_rfl⟩
instance : Cf Tryz.prog 147 := ⟨fun _ _ => by kernel_rfl⟩
instance : Cf Tryz.prog 149 := ⟨fun _ _ => by kernel_rfl⟩
instance : Cf Tryz.prog 150 := ⟨fun _ _ => by kernel_rfl⟩
instance : Cf Tryz.prog 153 := ⟨fun _ _ => by kernel_rfl⟩
instance : Cf Tryz.prog 154 := ⟨fun _ _ => by kernel_rfl⟩
instance : Cf Tryz.prog 155 := ⟨fun _ _ => by kernel_rfl⟩
instance : Cf Tryz.prog 162 := ⟨fun _ _ => by kernel_rfl⟩
instance : Cf Tryz.prog 163 := ⟨fun _ _ => by kernel_rfl⟩
instance : Cf Tryz.prog 164 := ⟨fun _ _ => by kernel_rfl⟩
instance : Cf Tryz.prog 165 := ⟨fun _ _ => by kernel_rfl⟩
instance : Cf Tryz.prog 166 := ⟨fun _ _ => by kernel_rfl⟩
instance : Cf Tryz.prog 167 := ⟨fun _ _ => by kernel_rfl⟩
instance : Cf Tryz.prog 168 := ⟨fun _ _ => by kernel_rfl⟩
instance : Cf Tryz.prog 169 := ⟨fun _ _ => by kernel_rfl⟩
instance : Cf Tryz.prog 170 := ⟨fun _ _ => by kernel_rfl⟩
instance : Cf Tryz.prog 174 := ⟨fun _ _ => by kernel_rfl⟩
instance : Cf Tryz.prog 175 := ⟨fun _ _ => by kernel_rfl⟩
instance : Cf Tryz.prog 176 := ⟨fun _ _ => by kernel_rfl⟩
instance : Cf Tryz.prog 177 := ⟨fun _ _ => by kernel_rfl⟩
instance : Cf Tryz.prog 178 := ⟨fun _ _ => by kernel_rfl⟩
instance : Cf Tryz.prog 190 := ⟨fun _ _ => by kernel_rfl⟩
instance : Cf Tryz.prog 191 := ⟨fun _ _ => by kernel_rfl⟩
instance : Cf Tryz.prog 192 := ⟨fun _ _ => by kernel_rfl⟩
instance : Cf Tryz.prog 193 := ⟨fun _ _ => by kernel_rfl⟩
instance : Cf Tryz.prog 194 := ⟨fun _ _ => by kernel_rfl⟩
instance : Cf Tryz.prog 195 := ⟨fun _ _ => by kernel_rfl⟩
instance : Cf Tryz.prog 197 := ⟨fun _ _ => by kernel_rfl⟩
instance : Cf Tryz.prog 198 := ⟨fun _ _ => by kernel_rfl⟩
instance : Cf Tryz.prog 199 := ⟨fun _ _ => by kernel_rfl⟩
instance : Cf Tryz.prog 209 := ⟨fun _ _ => by kernel_rfl⟩
instance : Cf Tryz.prog 210 := ⟨fun _ _ => by kernel_rfl⟩
instance : Cf Tryz.prog 221 := ⟨fun _ _ => by kernel_rfl⟩
instance : Cf Tryz.prog 225 := ⟨fun _ _ => by kernel_rfl⟩
instance : Cf Tryz.prog 226 := ⟨fun _ _ => by kernel_rfl⟩
instance : Cf Tryz.prog 227 := ⟨fun _ _ => by kernel_rfl⟩
instance : Cf Tryz.prog 228 := ⟨fun _ _ => by kernel_rfl⟩
instance : Cf Tryz.prog 229 := ⟨fun _ _ => by kernel_rfl⟩
instance : Cf Tryz.prog 230 := ⟨fun _ _ => by kernel_rfl⟩
instance : Cf Tryz.prog 231 := ⟨fun _ _ => by kernel_rfl⟩
instance : Cf Tryz.prog 232 := ⟨fun _ _ => by kernel_rfl⟩
instance : Cf Tryz.prog 233 := ⟨fun _ _ => by kernel_rfl⟩
instance : Cf Tryz.prog 234 := ⟨fun _ _ => by kernel_rfl⟩
instance : Cf Tryz.prog 235 := ⟨fun _ _ => by kernel_rfl⟩
instance : Cf Tryz.prog 237 := ⟨fun _ _ => by kernel_rfl⟩
instance : Cf Tryz.prog 247 := ⟨fun _ _ => by kernel_rfl⟩
instance : Cf Tryz.prog 248 := ⟨fun _ _ => by kernel_rfl⟩
instance : Cf Tryz.prog 251 := ⟨fun _ _ => by kernel_rfl⟩
instance : Cf Tryz.prog 253 := ⟨fun _ _ => by kernel_rfl⟩
instance : Cf Tryz.prog 254 := ⟨fun _ _ => by kernel_rfl⟩
instance : Cf Tryz.prog 255 := ⟨fun _ _ => by kernel_rfl⟩
instance : Cf Tryz.prog 256 := ⟨fun _ _ => by kernel_rfl⟩
instance : Cf Tryz.prog 257 := ⟨fun _ _ => by kernel_rfl⟩
instance : Cf Tryz.prog 258 := ⟨fun _ _ => by kernel_rfl⟩
instance : Cf Tryz.prog 259 := ⟨fun _ _ => by kernel_rfl⟩
instance : Cf Tryz.prog 260 := ⟨fun _ _ => by kernel_rfl⟩
instance : Cf Tryz.prog 261 := ⟨fun _ _ => by kernel_rfl⟩
instance : Cf Tryz.prog 263 := ⟨fun _ _ => by kernel_rfl⟩
instance : Cf Tryz.prog 266 := ⟨fun _ _ => by kernel_rfl⟩
instance : Cf Tryz.prog 268 := ⟨fun _ _ => by kernel_rfl⟩
instance : Cf Tryz.prog 277 := ⟨fun _ _ => by kernel_rfl⟩
instance : Cf Tryz.prog 280 := ⟨fun _ _ => by kernel_rfl⟩
instance : Cf Tryz.prog 284 := ⟨fun _ _ => by kernel_rfl⟩
instance : Cf Tryz.prog 285 := ⟨fun _ _ => by kernel_rfl⟩
instance : Cf Tryz.prog 286 := ⟨fun _ _ => by kernel_rfl⟩
instance : Cf Tryz.prog 287 := ⟨fun _ _ => by kernel_rfl⟩
instance : Cf Tryz.prog 288 := ⟨fun _ _ => by kernel_rfl⟩
instance : Cf Tryz.prog 293 := ⟨fun _ _ => by kernel_rfl⟩
instance : Cf Tryz.prog 296 := ⟨fun _ _ => by kernel_rfl⟩
instance : Cf Tryz.prog 297 := ⟨fun _ _ => by kernel_rfl⟩
instance : Cf Tryz.prog 298 := ⟨fun _ _ => by kernel_rfl⟩
instance : Cf Tryz.prog 299 := ⟨fun _ _ => by kernel_rfl⟩
instance : Cf Tryz.prog 305 := ⟨fun _ _ => by kernel_rfl⟩
instance : Cf Tryz.prog 306 := ⟨fun _ _ => by kernel_rfl⟩
end Go.Proofs.YtmcpnoailbmkkaaGreatDoor
/- Maps of the call's own, with a bound on their entries; an entry that is laid first and written then. Over any program. -/
namespace Go.Proofs.YtmcpnoailbmkkaaGreatDoor
open Go Go.RowKit Go.Proofs Go.Shelf Go.ChangeMaps

def mapK (P : Program) {α β : Type} (kt e : TypeId) (kv : α → Value) (ok : α → Prop) (ed : β → DataW Unit) (b k : Nat) (m : α → Option β) : It where
 foot x := x = b
 holds w := ∃ n c, n ≤ k ∧ MapF P kt e kv ok ed w b n c m
 st _ _ h h1 := by obtain ⟨n, c, h0, h1⟩ := h1; exact ⟨n, c, h0, h1.heap (h b rfl)⟩
section
variable {P : Program} {α β : Type} {kt e t : TypeId} {kv : α → Value} {ok : α → Prop} {ev : β → Value} {ed : β → DataW Unit} {z : β} {okE : β → Prop}
theorem mapK_lt {b k : Nat} {m : α → Option β} {w : World} (h : (mapK P kt e kv ok ed b k m).holds w) : b < w.heap.size := by obtain ⟨n, c, -, h⟩ := h; exact h.lt
theorem mapK_le {b k k' : Nat} {m : α → Option β} {w : World} (h : (mapK P kt e kv ok ed b k m).holds w) (hk : k ≤ k') : (mapK P kt e kv ok ed b k' m).holds w := by
 obtain ⟨n, c, h0, h1⟩ := h; exact ⟨n, c, Nat.le_trans h0 hk, h1⟩
variable {n : Nat} {B : Bs} {Q : Exit → Act → World → Prop} {l : Sl} {H H' : List It} {ops : Array Oper} {rest : List Oper} {o : Oper} {x y q : Operand}
theorem ow_makeK {d : Nat} (ho : o.op = .makeMap t none) (hd : o.dst = some d) (hn : Nat.ble n d = false) (hm : ∀ w, (Instr.makeMap t none).run P w = .ok (.map (some w.heap.size)) (w.alloc (.map #[] 0))) :
  OpW P n B none l H o (fun b : Nat => B.w.heap.size ≤ b) (fun b => (d, .map (some b)) :: l) (fun b => mapK P kt e kv ok ed b 0 (fun _ => none) :: H) :=
 OpW.of_run hd hn (fun a w _ hw => by
  have hm' : (mapK P kt e kv ok ed w.heap.size 0 (fun _ => none)).holds (w.alloc (.map #[] 0)) := ⟨0, 0, Nat.le_refl _, MapF.made w⟩
  exact ⟨w.heap.size, w.alloc (.map #[] 0), hw.size, by unfold execOp; rw [ho]; simp only [Option.map_none, Sem.run_bind, hm, Result.andThen_ok, Sem.run_pure], hw.new ((Below.refl _ _).alloc (Nat.le_refl _) _) hm' (fun b e => by cases e; simp), (show Below _ _ _ from (Below.refl _ _).alloc (Nat.le_refl _) _)⟩)
theorem rv_lookK {b m' : Nat} {f : α → Option β} {u : Value} (K : KeyL P kt kv ok) (E : ElL P e ev ed z okE) (k : α) (ht : P.underlying t = some (.map kt e)) (ho : o.op = .lookup t x y false) (hx : evl l x = some (.map (some b))) (hy : evl l y = some u) (hm : mapK P kt e kv ok ed b m' f ∈ H) (hu : u = kv k) (hk : ok k) : RV P n B l H o (ev ((f k).getD z)) := fun a w ha hw => by
 obtain ⟨n, c, -, h⟩ := (hw.ok _ hm).1
 unfold execOp; rw [ho]; simp only [ha.ev hx, ha.ev hy, hu, Sem.run_bind, h.look K E ht hk, Result.andThen_ok, Sem.run_pure]
theorem rv_lookK2 {b m' : Nat} {f : α → Option β} {u : Value} {r : Option β} (K : KeyL P kt kv ok) (E : ElL P e ev ed z okE) (k : α) (ht : P.underlying t = some (.map kt e)) (ho : o.op = .lookup t x y true) (hx : evl l x = some (.map (some b))) (hy : evl l y = some u) (hm : mapK P kt e kv ok ed b m' f ∈ H) (hu : u = kv k) (hk : ok k) (hr : f k = r) : RV P n B l H o (.tuple #[ev (r.getD z), .bool r.isSome]) := fun a w ha hw => by
 subst hr
 obtain ⟨n, c, -, h⟩ := (hw.ok _ hm).1
 unfold execOp; rw [ho]; simp only [ha.ev hx, ha.ev hy, hu, Sem.run_bind, h.look2 K E ht hk, Result.andThen_ok, Sem.run_pure]
theorem mapK_old {b m' : Nat} {f : α → Option β} {w : World} (hw : Wd B H w) (hm : ¬ B.m b) (h : (mapK P kt e kv ok ed b m' f).holds B.w) : (mapK P kt e kv ok ed b m' f).holds w := (mapK P kt e kv ok ed b m' f).st B.w w (fun b' e' => by cases e'; exact hw.block _ (mapK_lt h) hm) h
theorem rv_lookKO {b m' : Nat} {f : α → Option β} {u : Value} (K : KeyL P kt kv ok) (E : ElL P e ev ed z okE) (k : α) (ht : P.underlying t = some (.map kt e)) (ho : o.op = .lookup t x y false) (hx : evl l x = some (.map (some b))) (hy : evl l y = some u) (hm : ¬ B.m b) (h0 : (mapK P kt e kv ok ed b m' f).holds B.w) (hu : u = kv k) (hk : ok k) : RV P n B l H o (ev ((f k).getD z)) := fun a w ha hw => by
 obtain ⟨n, c, -, h⟩ := mapK_old hw hm h0
 unfold execOp; rw [ho]; simp only [ha.ev hx, ha.ev hy, hu, Sem.run_bind, h.look K E ht hk, Result.andThen_ok, Sem.run_pure]
theorem rv_lookKO2 {b m' : Nat} {f : α → Option β} {u : Value} {r : Option β} (K : KeyL P kt kv ok) (E : ElL P e ev ed z okE) (k : α) (ht : P.underlying t = some (.map kt e)) (ho : o.op = .lookup t x y true) (hx : evl l x = some (.map (some b))) (hy : evl l y = some u) (hm : ¬ B.m b) (h0 : (mapK P kt e kv ok ed b m' f).holds B.w) (hu : u = kv k) (hk : ok k) (hr : f k = r) : RV P n B l H o (.tuple #[ev (r.getD z), .bool r.isSome]) := fun a w ha hw => by
 subst hr
 obtain ⟨n, c, -, h⟩ := mapK_old hw hm h0
 unfold execOp; rw [ho]; simp only [ha.ev hx, ha.ev hy, hu, Sem.run_bind, h.look2 K E ht hk, Result.andThen_ok, Sem.run_pure]
theorem ow_putK [DecidableEq α] {b m' m'' : Nat} {f : α → Option β} {u s : Value} (K : KeyL P kt kv ok) (E : ElL P e ev ed z okE) (k : α) (r : β) (ht : P.underlying t = some (.map kt e)) (ho : o.op = .mapUpdate t x y q) (hd : o.dst = none) (hx : evl l x = some (.map (some b))) (hy : evl l y = some u) (hq : evl l q = some s) (hu : u = kv k) (hs : s = ev r)
  (hat : At (mapK P kt e kv ok ed b m' f) (mapK P kt e kv ok ed b m'' (upd f k r)) H H') (hk : ok k) (hr : okE r) (hmn : m' < 1000000) (hm2 : m' + 1 ≤ m'') : OpW P n B (some (mapK P kt e kv ok ed b m' f)) l H o (fun _ : Unit => True) (fun _ => l) (fun _ => H') :=
 OpW.of_skip hd (fun a w ha hw => by
  obtain ⟨n, c, h0, h⟩ := (hw.ok _ hat.mem).1
  obtain ⟨w', h1, h2, h3⟩ := h.put K E ht (by omega) hk hr
  have hc : Chg (mapK P kt e kv ok ed b m' f) w w' := ⟨h3.os, h3.tape, h3.output, h3.size, fun k hk hnk => h3.block k hk (fun e => hnk (by injection e))⟩
  refine ⟨(), w', trivial, by unfold execOp; rw [ho]; simp only [ha.ev hx, ha.ev hy, ha.ev hq, hu, hs, Sem.run_bind, h1, Result.andThen_ok, Sem.run_pure], hw.chg hat rfl rfl hc ⟨_, _, by omega, h2⟩ (fun k hk => ⟨.inl hk, ?_⟩), hc⟩
  have : k = b := hk
  subst this
  exact h2.lt)
/-- An entry is laid; it is to be written. -/
def entK (P : Program) {α β : Type} [DecidableEq α] (kt e t : TypeId) (kv : α → Value) (ok : α → Prop) (ev : β → Value) (ed : β → DataW Unit) (okE : β → Prop) (b k : Nat) (m : α → Option β) (x : α) (st : Nat) : It where
 foot i := i = b
 holds w := b < w.heap.size ∧ ∃ es1 clock1, w.heap[b]? = some (.map es1 clock1) ∧ ∀ (w2 : World) (v : β), okE v → b < w2.heap.size → w2.heap[b]? = some (.map es1 clock1) → ∃ es' clock', (Instr.entryStore t (.map (some b)) (goInt st) (ev v)).run P w2 = .ok () (setBlock w2 b (.map es' clock')) ∧ (mapK P kt e kv ok ed b k (upd m x v)).holds (setBlock w2 b (.map es' clock'))
 st w w' h h1 := by
  obtain ⟨h0, es1, clock1, h1, h2⟩ := h1
  have e := (h b rfl).trans h1
  exact ⟨(Array.getElem?_eq_some_iff.1 e).1, es1, clock1, e, h2⟩
theorem setBlock_heap {w : World} {b : Nat} (o : Obj) (h : b < w.heap.size) : (setBlock w b o).heap[b]? = some o := by simp [setBlock, h]
theorem ow_entK [DecidableEq α] {G : Nat → List It} {d b m' m'' : Nat} {f : α → Option β} {u : Value} (KL : WideMaps.KeyLaw P kt) (K : KeyL P kt kv ok) (E : ElL P e ev ed z okE) (k : α) (ht : P.underlying t = some (.map kt e)) (ho : o.op = .mapEntry t x y) (hd : o.dst = some d) (hn : Nat.ble n d = false) (hx : evl l x = some (.map (some b))) (hy : evl l y = some u) (hu : u = kv k)
  (hat : ∀ s, At (mapK P kt e kv ok ed b m' f) (entK P kt e t kv ok ev ed okE b m'' f k s) H (G s)) (hk : ok k) (hmn : m' < 1000000) (hm2 : m' + 1 ≤ m'') : OpW P n B (some (mapK P kt e kv ok ed b m' f)) l H o (T := Value × Nat) (fun _ => True) (fun t => (d, .tuple #[t.1, goInt t.2]) :: l) (fun t => G t.2) :=
 OpW.of_run (T := Value × Nat) hd hn (V := fun t => .tuple #[t.1, goInt t.2]) (fun a w ha hw => by
  obtain ⟨n0, c, h0, h⟩ := (hw.ok _ (hat 0).mem).1
  have hmf := h
  obtain ⟨D, ⟨es, clock, hb, F, hs, hD⟩, hc0, hmap⟩ := h
  obtain ⟨kl, hkl⟩ := K.key k hk
  obtain ⟨v0, st, es1, clock1, r1, -, r3⟩ := Go.WideElems.entry_then_store KL ht E.zero hb F hkl
  have hlt : b < w.heap.size := hmf.lt
  have hcg : Chg (mapK P kt e kv ok ed b m' f) w (setBlock w b (.map es1 clock1)) := ⟨rfl, rfl, rfl, by simp [setBlock], fun i _ hi => heap_setBlock_other hb _ (fun e => hi e)⟩
  refine ⟨(v0, st), setBlock w b (.map es1 clock1), trivial, by unfold execOp; rw [ho]; simp only [ha.ev hx, ha.ev hy, hu, Sem.run_bind, r1, Result.andThen_ok, Sem.run_pure], hw.chg (hat st) rfl rfl hcg ?_ (fun i hi => ⟨.inl hi, ?_⟩), hcg⟩
  ·refine ⟨by simpa [setBlock] using hlt, es1, clock1, setBlock_heap _ hlt, fun w2 v hv hlt2 hw2 => ?_⟩
   obtain ⟨es', clock', q1, q2⟩ := r3 w2 (ev v) hw2
   obtain ⟨w', p1, p2, p3⟩ := hmf.put K E ht (by omega) hk hv
   rw [q2] at p1
   injection p1 with _ p1
   refine ⟨es', clock', q1, n0 + 1, _, by omega, p2.heap ?_⟩
   rw [← p1, setBlock_heap _ hlt, setBlock_heap _ hlt2]
  ·have : i = b := hi
   subst this
   simpa [setBlock] using hlt)
theorem ow_entStore [DecidableEq α] {b m' : Nat} {f : α → Option β} {k : α} {st : Nat} {s : Value} (v : β) (ho : o.op = .entryStore t x y q) (hd : o.dst = none) (hx : evl l x = some (.map (some b))) (hy : evl l y = some (goInt st)) (hq : evl l q = some s) (hs : s = ev v) (hv : okE v)
  (hat : At (entK P kt e t kv ok ev ed okE b m' f k st) (mapK P kt e kv ok ed b m' (upd f k v)) H H') : OpW P n B (some (entK P kt e t kv ok ev ed okE b m' f k st)) l H o (fun _ : Unit => True) (fun _ => l) (fun _ => H') :=
 OpW.of_skip hd (fun a w ha hw => by
  obtain ⟨hlt, es1, clock1, hb, h⟩ := (hw.ok _ hat.mem).1
  obtain ⟨es', clock', r1, r2⟩ := h w v hv hlt hb
  have hcg : Chg (entK P kt e t kv ok ev ed okE b m' f k st) w (setBlock w b (.map es' clock')) := ⟨rfl, rfl, rfl, by simp [setBlock], fun i _ hi => heap_setBlock_other hb _ (fun e => hi e)⟩
  refine ⟨(), setBlock w b (.map es' clock'), trivial, by unfold execOp; rw [ho]; simp only [ha.ev hx, ha.ev hy, ha.ev hq, hs, Sem.run_bind, r1, Result.andThen_ok, Sem.run_pure], hw.chg hat rfl rfl hcg r2 (fun i hi => ⟨.inl hi, ?_⟩), hcg⟩
  have : i = b := hi
  subst this
  simpa [setBlock] using hlt)
/-- A map's item with a wider bound. -/
theorem J_leK {b k k' : Nat} {m : α → Option β} {c : Code} (hat : At (mapK P kt e kv ok ed b k m) (mapK P kt e kv ok ed b k' m) H H') (hk : k ≤ k') (h : J P n B c Q l H') : J P n B c Q l H := fun a w h1 h2 => h a w h1 (h2.turn hat (fun h => h) (mapK_le (h2.ok _ hat.mem).1 hk) (fun _ h => h))
end
end Go.Proofs.YtmcpnoailbmkkaaGreatDoor
/- A range over a map of the call's own. Over any program. -/
namespace Go.Proofs.YtmcpnoailbmkkaaGreatDoor
open Go Go.RowKit Go.Proofs Go.Shelf

section
variable {P : Program} {α β : Type} [DecidableEq α] {kt e t : TypeId} {kv : α → Value} {ok : α → Prop} {ev : β → Value} {ed : β → DataW Unit} {z : β} {okE : β → Prop}
theorem entry_same {r b : Nat} {es : Array MapEntry} {clock since c0 : Nat} {seen : Array Nat} {w w' : World} {v : Value} (hr : w.heap[r]? = some (.mapIter (some b) since seen c0)) (hb : w.heap[b]? = some (.map es clock)) (hr' : w'.heap[r]? = w.heap[r]?) (hb' : w'.heap[b]? = w.heap[b]?)
  (h : (Instr.entry (.pointer (some ⟨r, 0, none⟩))).run P w = .ok v w) : (Instr.entry (.pointer (some ⟨r, 0, none⟩))).run P w' = .ok v w' := by
 have hr2 := hr'.trans hr
 have hb2 := hb'.trans hb
 cases h1 : seen.back? with
 | none => simp [Instr.entry, getObj, Sem.run, hr, Result.andThen, h1] at h
 | some s =>
  by_cases h2 : clock = c0
  ·cases h3 : es.find? (·.born == s) with
   | none => simp [Instr.entry, getObj, Sem.run, hr, hb, Result.andThen, h1, h2, h3] at h
   | some x =>
    simp [Instr.entry, getObj, Sem.run, hr, hb, Result.andThen, h1, h2, h3] at h
    simp [Instr.entry, getObj, Sem.run, hr2, hb2, Result.andThen, h1, h2, h3, h]
  ·simp [Instr.entry, getObj, Sem.run, hr, hb, Result.andThen, h1, h2] at h
/-- A map over which a range runs: S are the keys that were met, cnt are still to come; last is the one that was met last. -/
def rngK (P : Program) {α β : Type} [DecidableEq α] (kt e : TypeId) (kv : α → Value) (ok : α → Prop) (ev : β → Value) (ed : β → DataW Unit) (b r k cnt : Nat) (m : α → Option β) (S : List α) (last : Option (α × β)) : It where
 foot i := i = b ∨ i = r
 holds w := ∃ (n : Nat) (D : DataW Unit) (left : Lit → Bool), n ≤ k ∧ w.ranges P kt (rdE P e) b r n D left cnt ∧ (∀ x kl, ok x → keyOf P kt (kv x) = some kl → Maps.has D kl = (m x).isSome ∧ (∀ u, D.atKey kl u = match m x with | some v => ed v | none => u) ∧ left kl = ((m x).isSome && decide (x ∉ S))) ∧
  ∀ x v, last = some (x, v) → (Instr.entry (.pointer (some ⟨r, 0, none⟩))).run P w = .ok (.tuple #[kv x, ev v]) w
 st w w' h h1 := by
  obtain ⟨n, D, left, h0, ⟨es, clock, since, seen, c0, q1, q2, q3, q4, q5, q6⟩, h2, h3⟩ := h1
  refine ⟨n, D, left, h0, ⟨es, clock, since, seen, c0, (h b (.inl rfl)).trans q1, q2, q3, q4, (h r (.inr rfl)).trans q5, q6⟩, h2, fun x v hx => entry_same q5 q1 (h r (.inr rfl)) (h b (.inl rfl)) (h3 x v hx)⟩
variable {n : Nat} {B : Bs} {Q : Exit → Act → World → Prop} {l : Sl} {H H' : List It} {o : Oper} {x y q : Operand}
theorem ow_range {d b m' : Nat} {f : α → Option β} {G : Nat → Nat → List It} (K : KeyL P kt kv ok) (ht : P.underlying t = some (.map kt e)) (ho : o.op = .range t x) (hd : o.dst = some d) (hn : Nat.ble n d = false) (hx : evl l x = some (.map (some b))) (hat : ∀ r c, At (mapK P kt e kv ok ed b m' f) (rngK P kt e kv ok ev ed b r m' c f [] none) H (G r c)) :
  OpW P n B (some (mapK P kt e kv ok ed b m' f)) l H o (T := Nat × Nat) (fun t => B.w.heap.size ≤ t.1) (fun t => (d, .pointer (some ⟨t.1, 0, none⟩)) :: l) (fun t => G t.1 t.2) :=
 OpW.of_run (T := Nat × Nat) hd hn (V := fun t => .pointer (some ⟨t.1, 0, none⟩)) (fun a w ha hw => by
  obtain ⟨n0, c, h0, D, h1, h2, h3⟩ := (hw.ok _ (hat 0 0).mem).1
  obtain ⟨w', r1, r2, r3, r4⟩ := h1.range K.law ht
  have hcg : Chg (mapK P kt e kv ok ed b m' f) w w' := ⟨r3.os, r3.tape, r3.output, r3.size, fun i hi _ => r3.block i hi (by simp)⟩
  refine ⟨(w.heap.size, Maps.size D), w', hw.size, by unfold execOp; rw [ho]; simp only [ha.ev hx, Sem.run_bind, r1, Result.andThen_ok, Sem.run_pure], hw.chg (hat w.heap.size (Maps.size D)) rfl rfl hcg ⟨n0, D, _, h0, r2, fun x kl hx' hk => ?_, fun _ _ h => by cases h⟩ (fun i hi => ?_), hcg⟩
  ·obtain ⟨q1, q2⟩ := h3 x kl hx' hk
   exact ⟨q1, q2, by simp [q1]⟩
  ·rcases hi with rfl | rfl
   ·exact ⟨.inl rfl, by rw [r4]; exact Nat.lt_succ_of_lt h1.lt⟩
   ·exact ⟨.inr (Nat.le_refl _), by rw [r4]; exact Nat.lt_succ_self _⟩)
def nxV (kv : α → Value) (ev : β → Value) : Option (α × β × Nat) → Value
 | none => .tuple #[.bool false]
 | some (x, v, _) => .tuple #[.bool true, kv x, ev v]
def nxP (ok : α → Prop) (f : α → Option β) (S : List α) (cnt : Nat) : Option (α × β × Nat) → Prop
 | none => ∀ x, ok x → (f x).isSome = true → x ∈ S
 | some (x, v, c') => ok x ∧ f x = some v ∧ x ∉ S ∧ c' < cnt
def nxI (P : Program) (kt e : TypeId) (kv : α → Value) (ok : α → Prop) (ev : β → Value) (ed : β → DataW Unit) (b r k cnt : Nat) (m : α → Option β) (S : List α) (last : Option (α × β)) : Option (α × β × Nat) → It
 | none => rngK P kt e kv ok ev ed b r k cnt m S last
 | some (x, v, c') => rngK P kt e kv ok ev ed b r k c' m (x :: S) (some (x, v))
theorem ow_next {d b r m' cnt : Nat} {f : α → Option β} {S : List α} {last : Option (α × β)} {G : Option (α × β × Nat) → List It} (K : KeyL P kt kv ok) (KI : ∀ key kl, keyOf P kt key = some kl → ∃ x, key = kv x ∧ ok x) (E : ElL P e ev ed z okE) (ho : o.op = .next x false) (hd : o.dst = some d) (hn : Nat.ble n d = false) (hx : evl l x = some (.pointer (some ⟨r, 0, none⟩)))
  (hat : ∀ u, At (rngK P kt e kv ok ev ed b r m' cnt f S last) (nxI P kt e kv ok ev ed b r m' cnt f S last u) H (G u)) :
  OpW P n B (some (rngK P kt e kv ok ev ed b r m' cnt f S last)) l H o (T := Option (α × β × Nat)) (nxP ok f S cnt) (fun u => (d, nxV kv ev u) :: l) G :=
 OpW.of_run (T := Option (α × β × Nat)) hd hn (V := nxV kv ev) (fun a w ha hw => by
  have hI := hw.ok _ (hat none).mem
  obtain ⟨n0, D, left, h0, h1, h2, h3⟩ := hI.1
  rcases h1.next K.law o.type with ⟨hc0, hl, hrun⟩ | ⟨key, v, kl, yy, w', cnt', hkey, hlk, hv, hat', hrun, hrg, hlt, hgr, hsz, hen⟩
  ·refine ⟨none, w, fun x hx' hs => ?_, by unfold execOp; rw [ho]; simp only [ha.ev hx, Sem.run_bind, hrun, Result.andThen_ok, Sem.run_pure]; rfl, ?_, ⟨rfl, rfl, rfl, Nat.le_refl _, fun _ _ _ => rfl⟩⟩
   ·obtain ⟨kl, hk⟩ := K.key x hx'
    have := (h2 x kl hx' hk).2.2
    rw [hl, hs] at this
    simpa using this
   ·exact hw.turn (hat none) (fun h => h) hI.1 (fun _ h => h)
  ·obtain ⟨x0, rfl, hx0⟩ := KI key kl hkey
   obtain ⟨g1, g2, g3⟩ := h2 x0 kl hx0 hkey
   rw [hlk] at g3
   have g4 := (Bool.and_eq_true_iff.1 g3.symm)
   obtain ⟨v0, hv0⟩ := Option.isSome_iff_exists.1 g4.1
   have hyy : yy.1 = ed v0 := by
    have e1 := hat' (.lit (.bool true))
    rw [g2, hv0] at e1
    exact e1.symm
   have hvv : v = ev v0 := E.inv v v0 yy.2 (by rw [hv, ← hyy])
   subst hvv
   have hcg : Chg (rngK P kt e kv ok ev ed b r m' cnt f S last) w w' := ⟨hgr.os, hgr.tape, hgr.output, hgr.size, fun i hi hni => hgr.block i hi (fun e' => hni (.inr (by injection e')))⟩
   refine ⟨some (x0, v0, cnt'), w', ⟨hx0, hv0, of_decide_eq_true g4.2, hlt⟩, by unfold execOp; rw [ho]; simp only [ha.ev hx, Sem.run_bind, hrun, Result.andThen_ok, Sem.run_pure]; rfl, hw.chg (hat (some (x0, v0, cnt'))) rfl rfl hcg ⟨n0, D, _, h0, hrg, fun x kl' hx' hk => ?_, fun x v h => ?_⟩ (fun i hi => ⟨.inl hi, by rw [hsz]; exact (hI.2 i hi).2⟩), hcg⟩
   ·obtain ⟨q1, q2, q3⟩ := h2 x kl' hx' hk
    refine ⟨q1, q2, ?_⟩
    have hiff : kl'.sameKey kl = decide (x = x0) := by
     rw [Bool.eq_iff_iff, decide_eq_true_eq, WideAt.sameKey_iff (K.law.key hkey)]
     constructor
     ·rintro rfl; exact K.inj _ _ (K.law.inj hk hkey)
     ·rintro rfl; rw [hk] at hkey; injection hkey
    show (left kl' && !kl'.sameKey kl) = _
    rw [q3, hiff]
    by_cases e1 : x = x0 <;> by_cases e2 : x ∈ S <;> simp [e1, e2]
   ·injection h with h; injection h with h1 h2; subst h1 h2; exact hen)
theorem rv_entry {b r m' cnt : Nat} {f : α → Option β} {S : List α} {k : α} {v : β} (ho : o.op = .entry x) (hx : evl l x = some (.pointer (some ⟨r, 0, none⟩))) (hm : rngK P kt e kv ok ev ed b r m' cnt f S (some (k, v)) ∈ H) : RV P n B l H o (.tuple #[kv k, ev v]) := fun a w ha hw => by
 obtain ⟨n0, D, left, h0, h1, h2, h3⟩ := (hw.ok _ hm).1
 unfold execOp; rw [ho]; simp only [ha.ev hx, Sem.run_bind, h3 k v rfl, Result.andThen_ok, Sem.run_pure]
/-- The range is over: the map again. -/
theorem J_rngEnd {c : Code} {b r m' cnt : Nat} {f : α → Option β} {S : List α} {last : Option (α × β)} (hat : At (rngK P kt e kv ok ev ed b r m' cnt f S last) (mapK P kt e kv ok ed b m' f) H H') (h : J P n B c Q l H') : J P n B c Q l H := fun a w h1 h2 => h a w h1 (h2.turn hat (fun h => h) (by
 obtain ⟨n0, D, left, q0, q1, q2, -⟩ := (h2.ok _ hat.mem).1
 exact ⟨n0, Maps.size D, q0, D, q1.owns, rfl, fun x kl hx hk => ⟨(q2 x kl hx hk).1, (q2 x kl hx hk).2.1⟩⟩) (fun _ h => .inl h))
end
end Go.Proofs.YtmcpnoailbmkkaaGreatDoor
/- A range over a function whose iterator reads what the rounds write. Over any program. -/
namespace Go.Proofs.YtmcpnoailbmkkaaGreatDoor
open Go Go.RowKit Go.Proofs Go.Shelf
attribute [local go_sem] Oper.semAt_some

def mark (D : Nat) : Deferred := { target := .collected D, args := #[] }
/-- The blocks of the loops that are done. -/
def defsB (Ds : List Nat) : It where
 foot b := b ∈ Ds
 holds w := Ds.Nodup ∧ ∀ D ∈ Ds, w.heap[D]? = some (.deferred (some []))
 st _ _ h h1 := ⟨h1.1, fun D hD => (h D hD).trans (h1.2 D hD)⟩
/-- The record of a loop that runs. -/
def loopB (lp : Nat) (L : Loop) (Ds : List Nat) : It where
 foot b := b = lp ∨ b ∈ Ds
 holds w := lp ∉ Ds ∧ Ds.Nodup ∧ w.heap[lp]? = some (.loop L) ∧ ∀ D ∈ Ds, w.heap[D]? = some (.deferred (some []))
 st _ _ h h1 := ⟨h1.1, h1.2.1, (h lp (.inl rfl)).trans h1.2.2.1, fun D hD => (h D (.inr hD)).trans (h1.2.2.2 D hD)⟩
section
variable {P : Program} {n : Nat} {B : Bs} {Q : Exit → Act → World → Prop} {l : Sl} {H H' : List It} {c : Code} {w w' : World}
theorem Wd.re (h : Wd B H w) (r : Option Nat) (d : List Deferred) : Wd ⟨B.w, B.m, r, d⟩ H w := ⟨h.os, h.tape, h.output, h.size, h.block, h.ok, h.sep⟩
theorem Wd.un {w0 : World} {m : Nat → Prop} {r r' : Option Nat} {d d' : List Deferred} (h : Wd ⟨w0, m, r, d⟩ H w) : Wd ⟨w0, m, r', d'⟩ H w := ⟨h.os, h.tape, h.output, h.size, h.block, h.ok, h.sep⟩
theorem J_defs (h : J P n B c Q l (defsB [] :: H)) : J P n B c Q l H := fun a w ha hw => h a w ha (hw.new (Below.refl _ _) ⟨List.nodup_nil, fun _ h => (by cases h)⟩ (fun _ h => (by cases h)))
theorem Chg.putObj {A : It} {b : Nat} {o' : Obj} (hA : A.foot b) : Chg A w (w.putObj b o') :=
 ⟨(grownBy_putObj' w b o').os, (grownBy_putObj' w b o').tape, (grownBy_putObj' w b o').output, (grownBy_putObj' w b o').size, fun _ _ hf => World.putObj_heap_other (fun e => hf (e ▸ hA))⟩
theorem Wd.loop {lp : Nat} {L L' : Loop} {Ds : List Nat} (h : Wd B H w) (hat : At (loopB lp L Ds) (loopB lp L' Ds) H H') : Wd B H' (w.putObj lp (.loop L')) := by
 have hh := (h.ok _ hat.mem).1
 have hlt : lp < w.heap.size := (Array.getElem?_eq_some_iff.1 hh.2.2.1).1
 have hc : Chg (loopB lp L Ds) w (w.putObj lp (.loop L')) := Chg.putObj (.inl rfl)
 refine h.chg hat rfl rfl hc ⟨hh.1, hh.2.1, World.putObj_heap_same hlt, fun D hD => (World.putObj_heap_other (fun (e : D = lp) => hh.1 (by rw [← e]; exact hD))).trans (hh.2.2.2 D hD)⟩ (fun b hb => ⟨.inl hb, ?_⟩)
 have := ((h.ok _ hat.mem).2 b hb).2
 exact Nat.lt_of_lt_of_le this hc.size
theorem J_setK {P : Program} {α : Type} [DecidableEq α] {kt b : Nat} {kv : α → Value} {ok : α → Prop} {S : List α} (hat : At (setB P kt kv ok b S) (mapK P kt 4 kv ok dB b S.length (setG S)) H H') (h : J P n B c Q l H') : J P n B c Q l H := fun a w h1 h2 => h a w h1 (h2.turn hat (fun h => h) (h2.ok _ hat.mem).1 (fun _ h => h))
theorem J_kSet {P : Program} {α : Type} [DecidableEq α] {kt b : Nat} {kv : α → Value} {ok : α → Prop} {S : List α} {x : α} (hat : At (mapK P kt 4 kv ok dB b (x :: S).length (upd (setG S) x true)) (setB P kt kv ok b (x :: S)) H H') (h : J P n B c Q l H') : J P n B c Q l H := fun a w h1 h2 => h a w h1 (h2.turn hat (fun h => h) (by have := (h2.ok _ hat.mem).1; rw [setG_upd] at this; exact this) (fun _ h => h))
/-- The contract of an iterator f with what it has captured: T the states, Y what it hands out. -/
def Itr (P : Program) {T Y : Type} (f : FuncId) (caps : Array Value) (B : Bs) (φ : T → Prop) (HH : T → It → List It) (Yk : T → Y → Prop) (V : Y → Value) (HG : T → Y → It → List It) (Rn : T → T → Prop) (fin : T → Prop) : Prop :=
 ∀ (lp : Nat) (X : It) (t0 : T) (W : World), φ t0 → Wd B (HH t0 X) W →
  (∀ t y W1, φ t → Yk t y → Wd B (HG t y X) W1 → ∀ m, YieldAt Fence.wide m P lp #[V y] W1 (fun e W2 => e = .returned (.bool true) ∧ ∃ t', Rn t t' ∧ φ t' ∧ Wd B (HH t' X) W2)) →
  Calls P f (#[.func (.yield lp) #[] #[]] ++ caps) W (fun e W' => (∃ v, e = .returned v) ∧ ∃ t, φ t ∧ fin t ∧ Wd B (HH t X) W')
set_option maxHeartbeats 2000000 in
theorem J_range {T Y : Type} {g : Operand} {p : Nat} {assign body : Code} {f : FuncId} {caps : Array Value} [hf : Cf P f] (φ : T → Prop) (HH : T → It → List It) (Yk : T → Y → Prop) (V : Y → Value) (HG : T → Y → It → List It) (Rn : T → T → Prop) (fin : T → Prop) {Ds : List Nat} (l1 : Y → Sl)
  (hit : Itr P f caps ⟨B.w, B.m, none, []⟩ φ HH Yk V HG Rn fin) (t0 : T) (h0 : φ t0)
  (has : ∀ lp t y X, φ t → Yk t y → J P n ⟨B.w, B.m, some lp, []⟩ assign (Exit.then (CutP n ⟨B.w, B.m, some lp, []⟩ (fun _ : Unit => True) (fun _ => l1 y) (fun _ => HG t y X)) (fun _ _ _ => False)) ((p, V y) :: l) (HG t y X))
  (hbd : ∀ lp t y X, φ t → Yk t y → J P n ⟨B.w, B.m, some lp, []⟩ body (Exit.then (CutP n ⟨B.w, B.m, some lp, []⟩ (fun t' => Rn t t' ∧ φ t') (fun _ => []) (fun t' => HH t' X)) (fun _ _ _ => False)) (l1 y) (HG t y X))
  (k : ∀ D t, φ t → fin t → JQ n ⟨B.w, B.m, none, (D :: Ds).map mark⟩ Q .normal l (HH t (defsB (D :: Ds))))
  (hr : B.r = none := by rfl) (hd : B.d = Ds.map mark := by rfl) (hg : evl l g = some (.func (.func f) #[] caps) := by rfl) (hp : Nat.ble n p = false := by rfl)
  (hH : Pk (HH t0 (defsB Ds)) H := by repeat constructor) (a1 : ∀ t A C, At A C (HH t A) (HH t C) := by intro t A C; repeat constructor) (a2 : ∀ t y A C, At A C (HG t y A) (HG t y C) := by intro t y A C; repeat constructor) :
  J P n B (.rangeFunc g #[p] assign body) Q l H := by
 intro a w ha hw m
 rw [hr]
 have hF := hf.h
 have hw0 : Wd ⟨B.w, B.m, none, []⟩ (HH t0 (defsB Ds)) w := (hw.pick hH).re _ _
 clear hw hH
 refine wpIn_rangeFunc ?_
 intro fn hfn
 obtain ⟨rec, hrec⟩ : ∃ rec : LoopState → Option Code → Loop, rec = fun st pe => { state := st, pending := pe, fn, tmps := a.tmps, params := #[p], assign, body, defers := w.heap.size } := ⟨_, rfl⟩
 obtain ⟨W1, hW1⟩ : ∃ W1, (w.alloc (.deferred (some []))).alloc (.loop (rec .ready none)) = W1 := ⟨_, rfl⟩
 have hL1 : W1.heap[w.heap.size + 1]? = some (.loop (rec .ready none)) := by
  rw [← hW1]; have := World.alloc_heap_new (w.alloc (.deferred (some []))) (.loop (rec .ready none)); rwa [World.size_alloc] at this
 have hK1 : W1.heap[w.heap.size]? = some (.deferred (some [])) := by
  rw [← hW1]; exact (Below.heap_alloc _ _ _ (by simp)).trans (World.alloc_heap_new w _)
 have hb1 : Below w.heap.size w W1 := by rw [← hW1]; exact ((Below.refl _ _).alloc (Nat.le_refl _) _).alloc (by simp) _
 have hz1 : W1.heap.size = w.heap.size + 2 := by rw [← hW1]; simp
 have hmem := (a1 t0 (defsB Ds) (defsB Ds)).mem
 have hD0 := hw0.ok _ hmem
 have hnew : w.heap.size ∉ Ds := fun h => Nat.lt_irrefl _ (hD0.2 _ h).2
 have hnew1 : w.heap.size + 1 ∉ Ds := fun h => by have := (hD0.2 _ h).2; omega
 have hw1 : Wd ⟨B.w, B.m, none, []⟩ (HH t0 (loopB (w.heap.size + 1) (rec .ready none) (w.heap.size :: Ds))) W1 := by
  refine hw0.chg (a1 t0 _ _) rfl rfl ⟨hb1.os, hb1.tape, hb1.output, hb1.size, fun b hb _ => hb1.block b hb⟩ ⟨by simp [hnew1], List.nodup_cons.2 ⟨hnew, hD0.1.1⟩, hL1, fun D hD => ?_⟩ (fun b hb => ?_)
  ·rcases List.mem_cons.1 hD with rfl | hD
   ·exact hK1
   ·exact (hb1.block D (hD0.2 D hD).2).trans (hD0.1.2 D hD)
  ·rcases hb with rfl | hb
   ·exact ⟨.inr (by omega), by omega⟩
   ·rcases List.mem_cons.1 hb with rfl | hb
    ·exact ⟨.inr (Nat.le_refl _), by omega⟩
    ·exact ⟨.inl hb, by have := (hD0.2 b hb).2; omega⟩
 refine ⟨w.heap.size + 1, [mark w.heap.size], W1, { target := .fn (.func f) caps, args := #[.func (.yield (w.heap.size + 1)) #[] #[]] }, W1, f,
  #[.func (.yield (w.heap.size + 1)) #[] #[]] ++ caps, W1, ?_, ?_, ?_, ?_, fun h => (by cases h), ?_⟩
 ·rw [← hW1, hrec]; exact run_enterLoop_outer _ _ _ _ _
 ·simp only [resolve, ha.evD hg]
  simp [go_sem]
 ·intro f' _; exact trivial
 ·simp [invoke, go_sem, hF]
 refine (callsIn_wide.2 (hit (w.heap.size + 1) (loopB (w.heap.size + 1) (rec .ready none) (w.heap.size :: Ds)) t0 W1 h0 hw1 ?_)).mono ?_
 ·intro t y W ht hy hwW m'
  have hX := (hwW.ok _ (a2 t y (loopB (w.heap.size + 1) (rec .ready none) (w.heap.size :: Ds)) (loopB (w.heap.size + 1) (rec .ready none) (w.heap.size :: Ds))).mem).1
  have hl := hX.2.2.1
  have hy1 := run_yield (P := P) (args := #[V y]) hl (by rw [hrec]; simp)
  rw [hrec] at hy1
  refine ⟨fn, _, assign, body, hy1, roundIn_of_wpIn trivial ?_⟩
  have hfr : Fr n ((p, V y) :: l) { tmps := a.tmps.setIfInBounds p (V y), defers := [] } := by
   have h := ha.put p (V y) hp
   exact ⟨h.size, rfl, h.get⟩
  have hA := has (w.heap.size + 1) t y _ ht hy _ W hfr hwW.un m'
  refine wpIn_mono (Q := NO _) (by simpa [Bs.df, wr, Fence.inRound] using hA) ?_
  intro e a2' w2 hq
  cases e with
  | normal =>
   obtain ⟨_, -, a0, rfl, hf0, hw2⟩ := hq
   have hX2 := (hw2.ok _ (a2 t y (loopB (w.heap.size + 1) (rec .ready none) (w.heap.size :: Ds)) (loopB (w.heap.size + 1) (rec .ready none) (w.heap.size :: Ds))).mem).1
   refine ⟨_, run_beginRound hX2.2.2.1 (by rw [hrec]), ?_⟩
   have hw3 := hw2.loop (L' := { rec .ready none with state := .busy }) (a2 t y _ _)
   refine wpIn_mono (hbd (w.heap.size + 1) t y _ ht hy a0 _ hf0 hw3 m') ?_
   intro e a3 w4 hq
   cases e with
   | normal =>
    obtain ⟨t', ⟨hR, hφ⟩, a4, rfl, -, hw5⟩ := hq
    have hX5 := (hw5.ok _ (a1 t' (loopB (w.heap.size + 1) { rec .ready none with state := .busy } (w.heap.size :: Ds)) (loopB (w.heap.size + 1) { rec .ready none with state := .busy } (w.heap.size :: Ds))).mem).1
    refine ⟨_, _, run_endRound none hX5.2.2.1, rfl, t', hR, hφ, ?_⟩
    have := hw5.loop (L' := rec .ready none) (a1 t' _ _)
    rw [hrec] at this ⊢
    exact this.un
   | _ => exact hq.elim
  | _ => exact hq.elim
 ·rintro e W2 ⟨⟨u, rfl⟩, t, hφ, hfin, hw2⟩
  have hX2 := (hw2.ok _ (a1 t (loopB (w.heap.size + 1) (rec .ready none) (w.heap.size :: Ds)) (loopB (w.heap.size + 1) (rec .ready none) (w.heap.size :: Ds))).mem).1
  refine ⟨none, _, (run_endLoop hX2.2.2.1 (by rw [hrec]; simp)).trans (by rw [hrec]), ?_⟩
  have hw3 := hw2.loop (L' := { rec .ready none with state := .exhausted }) (a1 t _ _)
  have hX3 := (hw3.ok _ (a1 t (loopB (w.heap.size + 1) { rec .ready none with state := .exhausted } (w.heap.size :: Ds)) (loopB (w.heap.size + 1) { rec .ready none with state := .exhausted } (w.heap.size :: Ds))).mem).1
  have hw4 := hw3.turn (a1 t _ (defsB (w.heap.size :: Ds))) (fun h => (by cases h)) ⟨hX3.2.1, hX3.2.2.2⟩ (fun b hb => .inr hb)
  have hk := k w.heap.size t hφ hfin a _ ha (by rw [hrec] at hw4; exact hw4.un)
  show Q .normal _ _
  have e : ({ B.df a with defers := [mark w.heap.size] ++ (B.df a).defers } : Act) = (⟨B.w, B.m, none, (w.heap.size :: Ds).map mark⟩ : Bs).df a := by
   simp [Bs.df, hd]
  rw [e]
  exact hk
/-! ### A function with such loops -/
theorem J_startM {f : FuncId} {fn : Func} {args : Array Value} {w : World} {R : Ending → World → Prop} (hr : B.r = none) (hd : B.d = []) {vs : List Value} {k : Nat} (hf : P.funcs[f]? = some fn) (hb : fn.body = some c) (ha : args = vs.toArray) (hn : fn.ntmps = n) (hk : vs.length + k = n) (hl : en 0 vs = l)
  (hH : Wd B H w) (h : J P n B c (bodyPostM Fence.wide 0 P fn R) l H) : Calls P f args w R := by
 subst ha hl
 refine (callsIn_wide (n := 0)).1 (callsIn_of_wp_marks hf hb trivial ?_ rfl)
 have e : fn.ntmps - vs.toArray.size = k := by simp; omega
 rw [e]
 have h1 := h { tmps := vs.toArray ++ Array.replicate k undef, defers := [] } w (by rw [← hk]; exact Fr.start vs k) hH
 unfold Wp at h1
 rw [hr] at h1
 have e2 : B.df { tmps := vs.toArray ++ Array.replicate k undef, defers := [] } = { tmps := vs.toArray ++ Array.replicate k undef, defers := [] } := by unfold Bs.df; rw [hd]
 rw [e2] at h1
 exact wpIn_mono (h1 0) (NO.imp (fun _ _ _ _ h => h))
theorem Wd.take {D : Nat} {Ds : List Nat} (h : Wd B H w) (hat : At (defsB (D :: Ds)) (defsB Ds) H H') : (Instr.takeDeferred D).run P w = .ok [] (w.putObj D (.deferred none)) ∧ Wd B H' (w.putObj D (.deferred none)) := by
 have hh := h.ok _ hat.mem
 have hD := hh.1.2 D (by simp)
 have hn := List.nodup_cons.1 hh.1.1
 refine ⟨run_takeDeferred hD, h.chg hat rfl rfl (Chg.putObj (by simp [defsB])) ⟨hn.2, fun C hC => (World.putObj_heap_other (fun (e : C = D) => hn.1 (by rw [← e]; exact hC))).trans (hh.1.2 C (by simp [hC]))⟩ (fun b hb => ⟨.inl (by simp only [defsB] at hb ⊢; simp [hb]), ?_⟩)⟩
 have := (hh.2 b (by simp only [defsB] at hb ⊢; simp [hb])).2
 exact Nat.lt_of_lt_of_le this (grownBy_putObj' w D _).size
theorem JR_marks {fn : Func} {R : Ending → World → Prop} {r : ResultVar} {v : Value} {k : Nat} (HX : It → List It) {Ds : List Nat} (hr : fn.results = #[r]) (h1 : ∀ A, RR P n B l (HX A) r v) (hR : ∀ w, Wd B (HX (defsB [])) w → R (.returned v) w) (hd : B.d = Ds.map mark := by rfl) (hH : Pk (HX (defsB Ds)) H := by repeat constructor) (hat : ∀ A C, At A C (HX A) (HX C) := by intro A C; repeat constructor) :
  JQ n B (bodyPostM Fence.wide k P fn R) .ret l H := by
 intro a w ha hw
 show LeavesInM Fence.wide k P fn a.tmps R B.d .returning w
 rw [hd]
 have hw' := hw.pick hH
 clear hw hH hd
 induction Ds generalizing w with
 | nil =>
  refine ⟨v, ?_, hR w hw'⟩
  have h1 := h1 _ a w ha hw'
  rw [results_rvS, hr]
  simp [h1]
 | cons D Ds ih =>
  obtain ⟨h2, h3⟩ := Wd.take (P := P) hw' (hat _ _)
  exact ⟨by simp, .inl ⟨D, _, rfl, h2, ih _ h3⟩⟩
theorem JR_panicM {fn : Func} {R : Ending → World → Prop} {ch : List PanicEntry} {k : Nat} (hR : ∀ w, Wd B H w → R (.panicked ch) w) (hB : B.d = [] := by rfl) : JQ n B (bodyPostM Fence.wide k P fn R) (.panic ch) l H := fun a w _ hw => by
 show LeavesInM Fence.wide k P fn a.tmps R B.d (.panicking ch) w
 rw [hB]; exact hR w hw
/-! ### A call of yield -/
def JLi (P : Program) (n : Nat) (B : Bs) (ops : Array Oper) (Q : Exit → Act → World → Prop) (rest : List Oper) (l : Sl) (H : List It) : Prop := ∀ a w, Fr n l a → Wd B H w → ∀ m, wpListIn Fence.wide m P ops (NO Q) rest (B.df a) w
variable {ops : Array Oper} {rest : List Oper} {o : Oper}
theorem J_regI {id : Nat} {ls : List Oper} (h : JLi P n B ls.toArray Q ls l H) (hr : B.r = none := by rfl) : J P n B (.region id ls.toArray false) Q l H := fun a w ha hw m => by
 rw [hr]; exact wpIn_region_lit (h a w ha hw m)
theorem iN (h : JQ n B Q .normal l H) : JLi P n B ops Q [] l H := fun a w ha hw _ => h a w ha hw
theorem iV {d : Nat} {v : Value} (hv : RV P n B l H o v) (k : JLi P n B ops Q rest ((d, v) :: l) H) (hnd : isDef o.op = false := by rfl) (hd : o.dst = some d := by rfl) (hW : WN ops n l o true := by exact wAny) (hn : Nat.ble n d = false := by rfl) : JLi P n B ops Q (o :: rest) l H := fun a w ha hw m =>
 wpListIn_step (fun K hK => by
  rw [if_pos (hW.D ha)]
  unfold Oper.wpIn
  refine ⟨fun _ _ => trivial, ?_⟩
  rw [Oper.semAt_plain _ _ _ (fun c hc => by rw [hc] at hnd; cases hnd), show (execOp (B.df a).eval o).run P w = _ from hv a w ha hw]
  show K ((B.df a).put o.dst v) w
  rw [hd]
  exact hK _ _ (by rw [Bs.df_put]; exact k _ _ (ha.put d v hn) hw m))
theorem iKF {d : Nat} {p : Prop} [Decidable p] (hp : ¬ p) (k : JLi P n B ops Q rest ((d, .bool false) :: l) H) : JLi P n B ops Q rest ((d, .bool (decide p)) :: l) H := fun a w ha hw m => k a w (Fr.known (decide_eq_false hp) ha) hw m
theorem iY {T : Type} {φ : T → Prop} {HH : T → List It} {ts : Array TypeId} {x y : Operand} {lp d : Nat} {v : Value} (hY : ∀ W, Wd B H W → ∀ m, YieldAt Fence.wide m P lp #[v] W (fun e W2 => e = .returned (.bool true) ∧ ∃ t', φ t' ∧ Wd B (HH t') W2))
  (k : ∀ t', φ t' → JLi P n B ops Q rest ((d, .bool true) :: l) (HH t')) (ho : o.op = .call { callee := .value x, args := #[y], argTypes := ts } := by rfl) (hx : evl l x = some (.func (.yield lp) #[] #[]) := by rfl) (hy : evl l y = some v := by rfl) (hd : o.dst = some d := by rfl) (hW : WN ops n l o true := by exact wAny) (hn : Nat.ble n d = false := by rfl) :
  JLi P n B ops Q (o :: rest) l H := fun a w ha hw m =>
 wpListIn_step (fun K hK => by
  rw [if_pos (hW.D ha)]
  obtain ⟨fn, tmps, assign, body, h1, h2⟩ := hY w hw (m - 1)
  have he : (execOp (B.df a).eval o).run P w = .ok (.round lp fn tmps assign body) w := by
   unfold execOp; rw [ho]
   simp only [resolve, ha.evD hx, List.map_toArray, List.map_cons, List.map_nil]
   simp [Deferred.ofValue, invoke, ha.evD hy, h1]
  unfold Oper.wpIn
  refine ⟨fun _ _ => trivial, ?_⟩
  rw [Oper.semAt_plain _ _ _ (fun c hc => by rw [ho] at hc; cases hc), he, Oper.uponIn_round]
  refine ⟨fun h => (by cases h), h2.mono ?_⟩
  rintro e W2 ⟨rfl, t', h3, h4⟩
  show K ((B.df a).put o.dst (.bool true)) W2
  rw [hd]
  exact hK _ _ (by rw [Bs.df_put]; exact k t' h3 _ _ (ha.put d _ hn) h4 m))
end
end Go.Proofs.YtmcpnoailbmkkaaGreatDoor
/- Calls that are put off; recover. Over any program. -/
namespace Go.Proofs.YtmcpnoailbmkkaaGreatDoor
open Go Go.RowKit Go.Proofs Go.Shelf
attribute [local go_sem] Oper.semAt_some
section
variable {P : Program} {n : Nat} {B : Bs} {Q : Exit → Act → World → Prop} {l : Sl} {H H' : List It} {c : Code} {w w' : World} {ops : Array Oper} {rest : List Oper} {o : Oper} {a : Act}
abbrev later (f : FuncId) (caps : Array Value) : Deferred := { target := .fn (.func f) caps, args := #[] }
/-- A statement 'defer f()'. -/
theorem aDefer {f : FuncId} {caps : Array Value} {g : Operand} {ts : Array TypeId} (k : JL P n ⟨B.w, B.m, B.r, later f caps :: B.d⟩ ops Q rest l H) (ho : o.op = .defer { callee := .value g, args := #[], argTypes := ts } := by rfl) (hg : evl l g = some (.func (.func f) #[] caps) := by rfl) (hd : o.dst = none := by rfl) (hW : WN ops n l o true := by exact wAny) : JL P n B ops Q (o :: rest) l H := fun a w ha hw =>
 wpList_step (fun K hK => by
  rw [if_pos (hW.D ha)]
  unfold Oper.wp
  have hr : (execOp (B.df a).eval o).run P w = .ok (.defer (later f caps)) w := by
   unfold execOp; rw [ho]
   simp only [resolve, ha.evD hg]
   simp [go_sem]
  rw [hr]
  show K (Act.put { B.df a with defers := later f caps :: B.d } o.dst undef) w
  rw [hd]
  exact hK _ _ (k a w ha (hw.re _ _)))
theorem J.wp (h : J P n B c Q l H) (ha : Fr n l a) (hw : Wd B H w) (hr : B.r = none := by rfl) : c.wp P Q (B.df a) w := by
 have h1 := h a w ha hw
 unfold Wp at h1
 rw [hr] at h1
 exact wp_mono (wpIn_wide.1 (h1 0)) (NO.imp (fun _ _ _ _ h => h))
theorem J.wp0 (h : J P n B c Q l H) (ha : Fr n l a) (hw : Wd B H w) (hr : B.r = none := by rfl) (hd : B.d = [] := by rfl) : c.wp P Q a w := by
 have h1 := h.wp ha hw hr
 have e : B.df a = a := by
  have := ha.defers
  cases a; simp only [Bs.df, hd] at this ⊢; rw [this]
 rw [e] at h1
 exact h1
theorem JQ_of {e : Exit} (h : ∀ a w, Fr n l a → Wd B H w → Q e (B.df a) w) : JQ n B Q e l H := h
theorem J_startD {f : FuncId} {fn : Func} {args : Array Value} {w : World} {R : Ending → World → Prop} (hr : B.r = none) (hd : B.d = []) {vs : List Value} {k : Nat} (hf : P.funcs[f]? = some fn) (hb : fn.body = some c) (ha : args = vs.toArray) (hn : fn.ntmps = n) (hk : vs.length + k = n) (hl : en 0 vs = l)
  (hH : Wd B H w) (h : J P n B c (bodyPostD P fn R) l H) : Calls P f args w R := by
 subst ha hl
 refine calls_of_wp_defers hf hb ?_
 have e : fn.ntmps - vs.toArray.size = k := by simp; omega
 rw [e]
 have h1 := h.wp (a := { tmps := vs.toArray ++ Array.replicate k undef, defers := [] }) (by rw [← hk]; exact Fr.start vs k) hH hr
 have e2 : B.df { tmps := vs.toArray ++ Array.replicate k undef, defers := [] } = { tmps := vs.toArray ++ Array.replicate k undef, defers := [] } := by unfold Bs.df; rw [hd]
 rw [e2] at h1
 exact h1
/-- The end of a function with one call that was put off. -/
theorem JR_leave {fn : Func} {R : Ending → World → Prop} {f : FuncId} {caps : Array Value} {r s : ResultVar} {v u : Value} {md : FrameMode} (hcf : ∀ args w, (callFunc f args).run P w = .ok (.enter f args) w) (hm : md ≠ .run) (hcatch : ∀ w, Wd B H w → CallsD P f caps md w (fun e u' w' => e = .returned (.tuple #[]) ∧ settle u' = .returning ∧ Wd B H' w'))
  (hr : fn.results = #[r, s]) (h1 : RR P n B l H' r v) (h2 : RR P n B l H' s u) (hR : ∀ w, Wd B H' w → R (.returned (.tuple #[v, u])) w) (ha : Fr n l a) (hw : Wd B H w) : Leaves P fn a.tmps R [later f caps] md w := by
 refine leaves_cons (f := f) (args := caps) hm (by simp [invoke, hcf]) ((hcatch w hw).mono ?_)
 rintro e u' w' ⟨rfl, hs, hw'⟩
 show Leaves P fn a.tmps R [] (settle u') w'
 rw [hs]
 refine ⟨.tuple #[v, u], ?_, hR w' hw'⟩
 have h1 := h1 a w' ha hw'
 have h2 := h2 a w' ha hw'
 rw [results_rvS, hr]
 simp [h1, h2]
/-- Two items as one. -/
def unI (A C : It) : It where
 foot b := A.foot b ∨ C.foot b
 holds w := A.holds w ∧ C.holds w ∧ ∀ b, A.foot b → C.foot b → False
 st w w' h h1 := ⟨A.st w w' (fun b hb => h b (.inl hb)) h1.1, C.st w w' (fun b hb => h b (.inr hb)) h1.2.1, h1.2.2⟩
theorem Wd.unite {A C : It} (h : Wd B (A :: C :: H) w) (hA : A.ro = false) (hC : C.ro = false) : Wd B (unI A C :: H) w := by
 have hs := List.pairwise_cons.1 h.sep
 have hs2 := List.pairwise_cons.1 hs.2
 have o1 := h.ok A (by simp)
 have o2 := h.ok C (by simp)
 have hd := sepR.out (hs.1 C (by simp)) hA
 have f1 : ∀ b, A.foot b → (B.m b ∨ B.w.heap.size ≤ b) ∧ b < w.heap.size := fun b hb => ⟨((o1.2 b hb).1).resolve_left (by rw [hA]; simp), (o1.2 b hb).2⟩
 have f2 : ∀ b, C.foot b → (B.m b ∨ B.w.heap.size ≤ b) ∧ b < w.heap.size := fun b hb => ⟨((o2.2 b hb).1).resolve_left (by rw [hC]; simp), (o2.2 b hb).2⟩
 refine ⟨h.os, h.tape, h.output, h.size, h.block, fun D hD => ?_, List.pairwise_cons.2 ⟨fun D hD => .inr (fun b h1 h2 => ?_), hs2.2⟩⟩
 ·rcases List.mem_cons.1 hD with rfl | hD
  ·exact ⟨⟨o1.1, o2.1, hd⟩, fun b hb => hb.elim (fun h => ⟨.inr (f1 b h).1, (f1 b h).2⟩) (fun h => ⟨.inr (f2 b h).1, (f2 b h).2⟩)⟩
  ·exact h.ok D (by simp [hD])
 ·rcases h1 with h1 | h1
  ·exact sepR.out (hs.1 D (by simp [hD])) hA b h1 h2
  ·exact sepR.out (hs2.1 D hD) hC b h1 h2
theorem Wd.split {A C : It} (h : Wd B (unI A C :: H) w) : Wd B (A :: C :: H) w := by
 have hs := List.pairwise_cons.1 h.sep
 have o := h.ok (unI A C) (by simp)
 have hf : ∀ b, A.foot b ∨ C.foot b → (False ∨ B.m b ∨ B.w.heap.size ≤ b) ∧ b < w.heap.size := fun b hb => by
  have := o.2 b hb
  exact ⟨this.1.imp_left (fun h => by cases h), this.2⟩
 have hd : ∀ D ∈ H, ∀ b, A.foot b ∨ C.foot b → D.foot b → False := fun D hD => sepR.out (hs.1 D hD) rfl
 refine ⟨h.os, h.tape, h.output, h.size, h.block, fun D hD => ?_, List.pairwise_cons.2 ⟨fun D hD => .inr (fun b h1 h2 => ?_), List.pairwise_cons.2 ⟨fun D hD => .inr (fun b h1 h2 => hd D hD b (.inr h1) h2), hs.2⟩⟩⟩
 ·rcases List.mem_cons.1 hD with rfl | hD
  ·exact ⟨o.1.1, fun b hb => ⟨(hf b (.inl hb)).1.imp_left (fun h => h.elim), (hf b (.inl hb)).2⟩⟩
  ·rcases List.mem_cons.1 hD with rfl | hD
   ·exact ⟨o.1.2.1, fun b hb => ⟨(hf b (.inr hb)).1.imp_left (fun h => h.elim), (hf b (.inr hb)).2⟩⟩
   ·exact h.ok D (by simp [hD])
 ·rcases List.mem_cons.1 hD with rfl | hD
  ·exact o.1.2.2 b h1 h2
  ·exact hd D hD b (.inl h1) h2
theorem Wd.keepO {A C : It} {H0 : List It} {w0 : World} (hw : Wd B H w0) (hW : Wd ⟨w0, A.foot, none, []⟩ H0 w) (hk : Pk [C, A] H) (hr : C.ro = false) : C.holds w ∧ ∀ b, C.foot b → ¬ A.foot b := by
 have h2 := hw.pick hk
 have hs := sepR.out ((List.pairwise_cons.1 h2.sep).1 A (by simp)) hr
 have o := h2.ok C (by simp)
 exact ⟨C.st w0 w (fun b hb => hW.block b (o.2 b hb).2 (fun h => hs b hb h)) o.1, fun b hb h => hs b hb h⟩
theorem Wd.belM {A : It} {H0 : List It} {w0 w1 : World} (hw : Wd (bs w0) H w1) (hA : A ∈ H) (hAr : A.ro = false) (hW : Wd ⟨w1, A.foot, none, []⟩ H0 w) : Below w0.heap.size w0 w := by
 have hb := hw.bel
 refine ⟨hW.os.trans hb.os, hW.tape.trans hb.tape, hW.output.trans hb.output, Nat.le_trans hb.size hW.size, fun b h => (hW.block b (Nat.lt_of_lt_of_le h hb.size) (fun hf => ?_)).trans (hb.block b h)⟩
 rcases ((hw.ok A hA).2 b hf).1 with h1 | h1 | h1
 ·rw [hAr] at h1; cases h1
 ·exact h1.elim
 ·exact absurd h (Nat.not_lt.2 h1)
theorem Rm.pk {A : It} {H1 : List It} (h : Rm A H H1) : ∀ {w : World}, Wd B H w → Wd B (A :: H1) w := by
 intro w hw
 obtain ⟨h1, h2⟩ := h.sep (R := sepR) sepR_symm hw.sep
 exact ⟨hw.os, hw.tape, hw.output, hw.size, hw.block, fun C hC => hw.ok C (by rcases List.mem_cons.1 hC with rfl | hC; exact h.mem; exact h.sub C hC), List.pairwise_cons.2 ⟨h2, h1⟩⟩
theorem JL_split {A C : It} {H1 : List It} (h : JL P n B ops Q rest l (A :: C :: H1)) (hr : Rm (unI A C) H H1 := by repeat constructor) : JL P n B ops Q rest l H := fun a w ha hw => h a w ha (hr.pk hw).split
theorem J_split {A C : It} {H1 : List It} (h : J P n B c Q l (A :: C :: H1)) (hr : Rm (unI A C) H H1 := by repeat constructor) : J P n B c Q l H := fun a w ha hw => h a w ha (hr.pk hw).split
theorem wpS_seq_k {x y : Code} {K : Act → List Frame → World → Prop} {Q : Exit → Act → List Frame → World → Prop} {cs : List Frame} (h1 : x.wpS P (Exit.thenS K (fun _ _ _ _ => False)) a cs w) (h2 : ∀ a cs w, K a cs w → y.wpS P Q a cs w) : (x.seq y).wpS P Q a cs w := by
 refine wpS_seq (fun b k hb hr => ?_)
 obtain ⟨e, a', cs', w', hq, harr⟩ := h1 b k hb hr
 cases e with
 | normal => exact ⟨.normal, a', cs', w', h2 _ _ _ hq, harr⟩
 | _ => exact hq.elim
end
end Go.Proofs.YtmcpnoailbmkkaaGreatDoor
/- The walk by live slots: appends of whole slices of rows that the function owns. Over any program. -/
namespace Go.Proofs.YtmcpnoailbmkkaaGreatDoor
open Go Go.RowKit Go.Proofs
section
variable {P : Program} {n : Nat} {B : Bs} {Q : Exit → Act → World → Prop} {ops : Array Oper} {rest : List Oper} {l : Sl} {H : List It} {o : Oper}
theorem Arr.takeC {α : Type} {k : Nat} {enc : α → List Value} {A : Option Addr} {n c m : Nat} {w : World} {l : List α} (h : Arr k enc w (.slice A n c) l) (hm : m ≤ l.length) : Arr k enc w (.slice A m c) (l.take m) := by
 obtain ⟨A', cap, e, h2, h3, h4⟩ := h
 injection e with e1 e2 e3
 subst e1 e2 e3
 have hl : (l.take m).length = m := by rw [List.length_take]; omega
 refine ⟨A, c, by rw [hl], by omega, ⟨by omega, h3.2⟩, fun hn => ?_⟩
 obtain ⟨b, o, e, hh⟩ := h4 (by intro e; subst e; simp at hn)
 refine ⟨b, o, e, fun j hj i hi => ?_⟩
 rw [List.getElem_take]
 exact hh j (by omega) i hi
theorem Arr.drop {α : Type} {k : Nat} {enc : α → List Value} {A : Option Addr} {n c m : Nat} {w : World} {l : List α} (h : Arr k enc w (.slice A n c) l) (hm : m ≤ l.length) : Arr k enc w (.slice (if c = m then A else A.map (·.add (m * k))) (n - m) (c - m)) (l.drop m) := by
 obtain ⟨A', cap, e, h2, h3, h4⟩ := h
 injection e with e1 e2 e3
 subst e1 e2 e3
 refine ⟨_, c - m, by rw [List.length_drop], by rw [List.length_drop]; omega, ⟨by rw [List.length_drop]; omega, by omega⟩, fun hn => ?_⟩
 have hl : m < l.length := by
  rcases Nat.lt_or_ge m l.length with h | h
  ·exact h
  ·exact absurd (List.drop_eq_nil_of_le h) hn
 obtain ⟨b, o, rfl, hh⟩ := h4 (by intro e; subst e; simp at hl)
 refine ⟨b, o + m * k, by rw [if_neg (by omega)]; show some (Addr.add _ _) = _; rw [Addr.add_mid], fun j hj i hi => ?_⟩
 rw [List.length_drop] at hj
 have := hh (m + j) (by omega) i hi
 rw [List.getElem_drop, ← this, Nat.add_mul, ← Nat.add_assoc]
/-- What is known of a row of our own: its form. -/
theorem own_cn {ty k m c : Nat} {A : Option Addr} {xs : List Value} (hw : ∃ w, Wd B H w) (hm : ownB ty k A m c xs ∈ H) : (m ≤ c ∧ c ≤ maxLen) ∧ (A = none → c = 0) := by
 refine ⟨own_cap hw hm, ?_⟩
 obtain ⟨w, hw⟩ := hw
 have h1 : w.ownsRow 0 ty k (.slice A m c) m xs := (hw.ok _ hm).1
 rcases h1.2 with ⟨e, h0⟩ | ⟨g, cap, cur, hv, -⟩
 ·injection e with e1 e2 e3; exact fun _ => e3
 ·injection hv with e1 e2 e3; intro e; rw [e] at e1; cases e1
theorem own_arr {α : Type} {k : Nat} {enc : α → List Value} (E : Enc k enc) {w : World} {ty c : Nat} {A : Option Addr} {L : List α} (hw : Wd B H w) (hm : ownB ty k A L.length c (L.flatMap enc) ∈ H) (hl : L.length ≤ 9223372036854775807) : Arr k enc w (.slice A L.length c) L := Arr.of_own E (hw.ok _ hm).1 hl
theorem run_append0' {P : Program} {w : World} (sl e ty : TypeId) (A : Option Addr) (m c c' sz : Nat) (ht : P.underlying sl = some (.slice e)) (hs : ∀ w, (sizeOf e).run P w = .ok sz w) (hmc : m ≤ c) : (Builtin.append_ #[sl, sl] ty #[.slice A m c, .slice none 0 c']).run P w = .ok (.slice A m c) w := by
 cases A <;> simp [Builtin.append_, run_underlying ht, hs, Builtin.lenOf, Builtin.firstCells, storeCells, hmc, Sem.run_bind]
theorem ow_appY {α : Type} {k : Nat} {enc : α → List Value} (E : Enc k enc) (hk : 0 < k) {sl e : TypeId} {z : Value} {bytes d : Nat} {x y : Operand} {A Y : Option Addr} {c m c' : Nat} {L M : List α} {G : Option Addr → Nat → List It}
  (ht : P.underlying sl = some (.slice e)) (hinf : (P.info? e).map (fun i => (i.zero, i.size, i.bytes)) = some (some z, k, bytes)) (hzs : z.cells.size = k) (hby : bytes ≤ 128) (hs : ∀ w, (sizeOf e).run P w = .ok k w)
  (ho : o.op = .call { callee := .builtin .append, args := #[x, y], argTypes := #[sl, sl] }) (hd : o.dst = some d) (hn : Nat.ble n d = false) (hx : evl l x = some (.slice A L.length c)) (hy : evl l y = some (.slice Y m c')) (hm : m = M.length) (hLc : L.length ≤ c)
  (hnews : ∀ w, Wd B H w → Arr k enc w (.slice Y m c') M) (hl : L.length + M.length ≤ 1000000)
  (hat : ∀ A' c', At (ownB e k A L.length c (L.flatMap enc)) (ownB e k A' (L ++ M).length c' ((L ++ M).flatMap enc)) H (G A' c')) : OpS P n B (some (ownB e k A L.length c (L.flatMap enc))) l H o (fun A' c' => (d, .slice A' (L ++ M).length c') :: l) G := by
 cases Y with
 | some a => exact ow_appX E hk ht hinf hzs hby hs ho hd hn hx hy hm (fun h => (by cases h)) hLc hnews hl hat
 | none =>
  refine OpW.of_run (T := Option Addr × Nat) (φ := fun _ => True) (G := fun t => G t.1 t.2) hd hn (V := fun t => .slice t.1 (L ++ M).length t.2) (fun a1 w ha hw => ?_)
  have hM : M = [] := by
   obtain ⟨A', cap, e, -, -, h4⟩ := hnews w hw
   injection e with e1
   cases M with
   | nil => rfl
   | cons u M =>
    obtain ⟨b, q, e2, -⟩ := h4 (by simp)
    rw [← e1] at e2; cases e2
  subst hM
  have hat' := hat A c
  rw [List.append_nil] at hat'
  refine ⟨(A, c), w, trivial, ?_, ?_, ⟨rfl, rfl, rfl, Nat.le_refl _, fun _ _ _ => rfl⟩⟩
  ·subst hm
   rw [List.append_nil]
   exact run_append_op ho (ha.ev hx) (ha.ev hy) (run_append0' sl e o.type A L.length c c' k ht hs hLc)
  ·rw [← hat'.same]; exact hw
/-- An append of a whole slice. -/
theorem oAppX {α : Type} {k : Nat} {enc : α → List Value} (E : Enc k enc) {sl e : TypeId} {z : Value} {bytes d : Nat} {x y : Operand} {A Y : Option Addr} {c m c' : Nat} (L M : List α) {G : Option Addr → Nat → List It} [u : Und P sl (.slice e)] [i : Inf P e z k bytes] [s : Siz P e k]
  (hnews : ∀ w, Wd B H w → Arr k enc w (.slice Y m c') M) (hm : m = M.length) (hLc : L.length ≤ c) (ho : o.op = .call { callee := .builtin .append, args := #[x, y], argTypes := #[sl, sl] } := by rfl) (hk : 0 < k := by decide) (hzs : z.cells.size = k := by rfl) (hby : bytes ≤ 128 := by decide) (hd : o.dst = some d := by rfl) (hn : Nat.ble n d = false := by rfl)
  (hx : evl l x = some (.slice A L.length c) := by rfl) (hy : evl l y = some (.slice Y m c') := by rfl) (hl : L.length + M.length ≤ 1000000 := by omega)
  (hat : ∀ A' c', At (ownB e k A L.length c (L.flatMap enc)) (ownB e k A' (L ++ M).length c' ((L ++ M).flatMap enc)) H (G A' c') := by intro A c; repeat constructor) : OpS P n B (some (ownB e k A L.length c (L.flatMap enc))) l H o (fun A' c' => (d, .slice A' (L ++ M).length c') :: l) G :=
 ow_appY E hk u.h i.h hzs hby s.h ho hd hn hx hy hm hLc hnews hl hat
theorem ec_valE {f : FuncId} {g : Operand} {fs cs args : Array Value} {xs : List Operand} {ts : Array TypeId} {vs : List Value} (ho : o.op = .call { callee := .value g, args := xs.toArray, argTypes := ts }) (hg : evl l g = some (.func (.func f) fs cs)) (hx : evs l xs = some vs) (hf : ∀ args w, (callFunc f args).run P w = .ok (.enter f args) w) (he : (fs ++ vs.toArray ++ cs).toList = args.toList) : EC P n l o f args := by
 have : fs ++ vs.toArray ++ cs = args := Array.toList_inj.1 he
 rw [← this]
 exact ec_val ho hg hx hf
end
section
variable {P : Program} {n : Nat} {B : Bs} {Q : Exit → Act → World → Prop} {ops : Array Oper} {l : Sl} {H : List It} {ld lx : List Nat} {H0 Hx : List It} {fuel : Nat} {listed : Array Bool} {ord : List Nat}
theorem dPair {i j : Nat} (hr : Region.ready .any ops listed = [i, j]) (h1 : St1 P n B ops Q ld H0 lx Hx fuel listed l H i) (h2 : St1 P n B ops Q ld H0 lx Hx fuel listed l H j) : JD ord P n B ops Q ld H0 lx Hx (fuel + 1) listed l H := JA_pair hr h1 h2
theorem dThree {i j k : Nat} (hr : Region.ready .any ops listed = [i, j, k]) (h1 : St1 P n B ops Q ld H0 lx Hx fuel listed l H i) (h2 : St1 P n B ops Q ld H0 lx Hx fuel listed l H j) (h3 : St1 P n B ops Q ld H0 lx Hx fuel listed l H k) : JD ord P n B ops Q ld H0 lx Hx (fuel + 1) listed l H := JA_three hr h1 h2 h3
end
section
variable {P : Program} {n : Nat} {B : Bs} {Q : Exit → Act → World → Prop} {l : Sl} {H : List It} {c : Code}
/-- Labels that only breaks and continues name. -/
theorem J_scope (h : J P n B c (Exit.noGoto Q) l H) (hr : B.r = none := by rfl) : J P n B (.scope c) Q l H := fun a w ha hw m => by
 have h1 := h a w ha hw m
 rw [hr] at h1 ⊢
 exact wpIn_wide.2 (wp_scope_straight (wp_mono (wpIn_wide.1 h1) (fun e a w hq => by cases e <;> exact hq)))
theorem JQ_ngR (h : JQ n B Q .ret l H) : JQ n B (Exit.noGoto Q) .ret l H := fun a w ha hw => h a w ha hw
end
end Go.Proofs.YtmcpnoailbmkkaaGreatDoor
/- Layers 2 and 7, in plain Lean: stones, positions, codes, throws. (Carried over from the texts of wip/rules by wip/tools/plain.py.) -/
namespace Go.Proofs.YtmcpnoailbmkkaaGreatDoor
open Go Go.RowKit Go.Proofs
def ab (x : Int) : Int := if x < 0 then -x else x
theorem ab_nn (x : Int) : 0 ≤ ab x := by unfold ab; split <;> omega
theorem ab_sq (x : Int) : ab x * ab x = x * x := by
  unfold ab; split
  · rw [Int.neg_mul_neg]
  · rfl
theorem sq_bound {x B : Int} (h : ab x ≤ B) : 0 ≤ x * x ∧ x * x ≤ B * B := by
  rw [← ab_sq]
  have h0 := ab_nn x
  exact ⟨Int.mul_nonneg h0 h0, Int.mul_le_mul h h h0 (by omega)⟩
/-- A place is valid; a stone there is in play. -/
def OkS (x y : Int) : Prop := (-6553600000 ≤ x ∧ x ≤ 6553600000) ∧ -6553600000 ≤ y ∧ y ≤ 6553600000
def Play (x y : Int) : Prop := ab x + 9502720 < 155648000 ∧ -419495936 < y - 9502720 ∧ y - 9502720 ≤ 119865344
instance (x y : Int) : Decidable (OkS x y) := by unfold OkS; infer_instance
instance (x y : Int) : Decidable (Play x y) := by unfold Play; infer_instance
def sqd (x y : Int) : Int := x * x + y * y
def zoneZ (x y : Int) : Int := if Play x y then (if sqd x y ≤ 16736095983108096 then 2 else if y + 9502720 < 0 then 1 else 3) else 0
def InH (x y : Int) : Prop := Play x y ∧ sqd x y ≤ 16736095983108096
instance (x y : Int) : Decidable (InH x y) := by unfold InH; infer_instance
theorem zone_house (x y : Int) : zoneZ x y = 2 ↔ InH x y := by
  unfold zoneZ InH
  constructor
  · intro h; split at h
    · rename_i h1; split at h
      · exact ⟨h1, by assumption⟩
      · split at h <;> omega
    · omega
  · rintro ⟨h1, h2⟩; rw [if_pos h1, if_pos h2]
theorem zone_away (x y : Int) : zoneZ x y = 0 ↔ ¬ Play x y := by
  unfold zoneZ
  constructor
  · intro h h1; rw [if_pos h1] at h; split at h
    · omega
    · split at h <;> omega
  · intro h; rw [if_neg h]
theorem play_bound {x y : Int} (h : Play x y) : ab x ≤ 146145280 ∧ ab y ≤ 409993216 := by
  unfold Play ab at *; split at h <;> split <;> omega
/-- How stones that lie dx, dy apart touch: -1 they overlap, 0 they touch, 1 neither. -/
def touZ (dx dy : Int) : Int := if 19005440 < ab dx ∨ 19005440 < ab dy then 1 else if sqd dx dy < 361206749593600 then -1 else if 361206749593600 < sqd dx dy then 1 else 0
/-- A stone. -/
structure St where
  t : Int
  n : Int
  x : Int
  y : Int
def ovB (a b : St) : Bool := decide (OkS a.x a.y ∧ OkS b.x b.y ∧ touZ (a.x - b.x) (a.y - b.y) = -1)
/-- The first place at which p holds, or -1. -/
def fidx {α : Type} (p : α → Bool) (l : List α) : Int := if l.findIdx p < l.length then (l.findIdx p : Int) else -1
theorem fidx_at {α : Type} {p : α → Bool} {l : List α} {k : Nat} (h : k < l.length) (h1 : p (l[k]'h) = true) (h2 : ∀ j (hj : j < k), p (l[j]'(by omega)) = false) : fidx p l = k := by
  have e : l.findIdx p = k := (List.findIdx_eq h).2 ⟨h1, h2⟩
  unfold fidx; rw [e, if_pos h]
theorem fidx_none {α : Type} {p : α → Bool} {l : List α} (h : ∀ j (hj : j < l.length), p (l[j]'hj) = false) : fidx p l = -1 := by
  have : l.findIdx p = l.length := by
    rw [List.findIdx_eq_length]
    intro x hx
    obtain ⟨j, hj, rfl⟩ := List.getElem_of_mem hx
    exact h j hj
  unfold fidx; rw [this, if_neg (by omega)]
/-- The first pair, from place i on. -/
def pairF {α : Type} (h : α → α → Bool) : List α → Nat → Int × Int
  | [], _ => (-1, -1)
  | a :: l, i => if 0 ≤ fidx (h a) l then ((i : Int), (i : Int) + 1 + fidx (h a) l) else pairF h l (i + 1)
theorem pairF_step {α : Type} {h : α → α → Bool} {l : List α} {k : Nat} (hk : k < l.length) :
    pairF h (l.drop k) k = if 0 ≤ fidx (h (l[k]'hk)) (l.drop (k + 1)) then ((k : Int), (k : Int) + 1 + fidx (h (l[k]'hk)) (l.drop (k + 1))) else pairF h (l.drop (k + 1)) (k + 1) := by
  rw [List.drop_eq_getElem_cons hk]; rfl
def isB (t n : Int) (s : St) : Bool := s.t == t && s.n == n
def nameB (a b : St) : Bool := a.t == b.t && a.n == b.n
def okSt (s : St) : Prop := ((0 ≤ s.t ∧ s.t ≤ 1) ∧ 0 ≤ s.n ∧ s.n ≤ 7) ∧ OkS s.x s.y ∧ Play s.x s.y
instance (s : St) : Decidable (okSt s) := by unfold okSt; infer_instance
/-- Stones are valid, with names that no earlier one has. -/
def goodF : List St → List St → Bool
  | _, [] => true
  | pre, s :: r => decide (okSt s) && pre.all (fun a => !nameB a s) && goodF (pre ++ [s]) r
def chkB (l : List St) : Bool := decide (l.length ≤ 16) && goodF [] l && decide ((pairF ovB l 0).1 < 0)
theorem goodF_step {l : List St} {k : Nat} (hk : k < l.length) :
    goodF (l.take k) (l.drop k) = (decide (okSt (l[k]'hk)) && (l.take k).all (fun a => !nameB a (l[k]'hk)) && goodF (l.take (k + 1)) (l.drop (k + 1))) := by
  rw [List.drop_eq_getElem_cons hk, List.take_succ_eq_append_getElem hk]; rfl
/-- The names of stones, the last one first. -/
def namesR (l : List St) : List (Int × Int) := (l.map fun s => (s.t, s.n)).reverse
theorem namesR_snoc (l : List St) (s : St) : namesR (l ++ [s]) = (s.t, s.n) :: namesR l := by simp [namesR]
theorem namesR_len (l : List St) : (namesR l).length = l.length := by simp [namesR]
theorem names_all (l : List St) (s : St) : l.all (fun a => !nameB a s) = !decide ((s.t, s.n) ∈ namesR l) := by
  rw [Bool.eq_iff_iff]
  simp only [List.all_eq_true, Bool.not_eq_true', decide_eq_false_iff_not, namesR, List.mem_reverse, List.mem_map, not_exists, not_and]
  constructor
  · intro h a ha e
    have := h a ha
    injection e with e1 e2
    simp [nameB, e1, e2] at this
  · intro h a ha
    have := h a ha
    cases hn : nameB a s
    · rfl
    · exfalso
      simp only [nameB, Bool.and_eq_true, beq_iff_eq] at hn
      exact this (by rw [hn.1, hn.2])
theorem good_all {l : List St} : ∀ {k : Nat}, k ≤ l.length → goodF (l.take k) (l.drop k) = true → ∀ j (h : j < l.length), k ≤ j → okSt (l[j]'h) := by
  intro k hk
  induction hn : l.length - k generalizing k with
  | zero => intro _ j h1 h2; omega
  | succ n ih =>
    intro hg j h1 h2
    rw [goodF_step (by omega), Bool.and_eq_true, Bool.and_eq_true] at hg
    by_cases e : j = k
    · subst e; exact of_decide_eq_true hg.1.1
    · exact ih (k := k + 1) (by omega) (by omega) hg.2 j h1 (by omega)
theorem chk_facts {l : List St} (h : chkB l = true) : l.length ≤ 16 ∧ ∀ j (h : j < l.length), okSt (l[j]'h) := by
  unfold chkB at h
  rw [Bool.and_eq_true, Bool.and_eq_true] at h
  exact ⟨of_decide_eq_true h.1.1, fun j hj => good_all (k := 0) (Nat.zero_le _) (by simpa using h.1.2) j hj (Nat.zero_le _)⟩
/-- A code. -/
structure Cd where
  f : Int
  t : Int
  s : Int
  e : Int
  p : Bool
def okN (n : Int) : Bool := decide (0 ≤ n ∧ n ≤ 16)
def ccB (c : Cd) : Bool := okN c.f && okN c.t && okN c.s && decide (1 ≤ c.e ∧ c.e ≤ 8) && (!c.p || decide (c.e ≤ 7))
def zn (x y : Int) : Int := if OkS x y then zoneZ x y else 0
def cen (s : St) : Bool := decide (OkS s.x s.y) && decide (Play s.x s.y ∧ ab s.x ≤ 9502720)
def guB (team : Int) (s : St) : Bool := s.t != team && zn s.x s.y == 1
def kpB (c : Cd) (n team : Int) (s : St) : Bool := decide (n < c.s) || (decide (n < c.f) && guB team s)
def fxB (c : Cd) (n team : Int) (s : St) : Bool := decide (n < c.t) && guB team s && cen s
def eqS (a b : St) : Bool := a.t == b.t && (a.n == b.n && (a.x == b.x && a.y == b.y))
/-- A stone's name, compared. -/
def eqK (x y x' y' : Int) : Bool := x == x' && y == y'
theorem eqS_iff (a b : St) : eqS a b = true ↔ a = b := by
  obtain ⟨a1, a2, a3, a4⟩ := a
  obtain ⟨b1, b2, b3, b4⟩ := b
  simp [eqS]
/-- Two lists are alike. -/
def eqL : List St → List St → Bool
  | [], [] => true
  | a :: l, b :: m => eqS a b && eqL l m
  | _, _ => false
theorem eqL_iff : ∀ (l m : List St), eqL l m = true ↔ l = m
  | [], [] => by simp [eqL]
  | a :: l, b :: m => by simp [eqL, eqS_iff, eqL_iff l m]
  | [], b :: m => by simp [eqL]
  | a :: l, [] => by simp [eqL]
theorem eqL_no {l m : List St} (h : l ≠ m) : eqL l m = false := by
  cases e : eqL l m
  · rfl
  · exact absurd ((eqL_iff l m).1 e) h
theorem eqK_iff (x y x' y' : Int) : eqK x y x' y' = true ↔ x = x' ∧ y = y' := by simp [eqK]
/-- The stone of a name. -/
def lookT (l : List St) (t n : Int) : Option St := l.foldl (fun r s => if eqK s.t s.n t n = true then some s else r) none
theorem lookT_snoc (l : List St) (s : St) (t n : Int) : lookT (l ++ [s]) t n = if eqK s.t s.n t n = true then some s else lookT l t n := by
  unfold lookT; rw [List.foldl_append]; rfl
def bnd (s : St) : Prop := (0 ≤ s.t ∧ s.t ≤ 1) ∧ 0 ≤ s.n ∧ s.n ≤ 7
def kyS (s : St) : Int := s.t * 8 + s.n
/-- A throw, but where the stones came to rest. -/
structure Th where
  team : Int
  n : Int
  late : Bool
  short : Bool
  how : Int
/-- A protected stone is gone. -/
def remB (c : Cd) (n team : Int) (m l : List St) : Bool := l.any (fun s => !(lookT m s.t s.n).isSome && kpB c n team s)
/-- A fixed stone has left the centre line. -/
def movB (c : Cd) (n team : Int) (m l : List St) : Bool := l.any (fun s => (lookT m s.t s.n).isSome && fxB c n team s && !cen ((lookT m s.t s.n).getD ⟨0, 0, 0, 0⟩))
theorem any_snoc (f : St → Bool) (l : List St) (s : St) : (l ++ [s]).any f = (l.any f || f s) := by simp
theorem remB_step (c : Cd) (n team : Int) (m : List St) {l : List St} {k : Nat} (h : k < l.length) : remB c n team m (l.take (k + 1)) = (remB c n team m (l.take k) || (!(lookT m (l[k]'h).t (l[k]'h).n).isSome && kpB c n team (l[k]'h))) := by
  unfold remB; rw [List.take_succ_eq_append_getElem h, any_snoc]
theorem movB_step (c : Cd) (n team : Int) (m : List St) {l : List St} {k : Nat} (h : k < l.length) : movB c n team m (l.take (k + 1)) = (movB c n team m (l.take k) || ((lookT m (l[k]'h).t (l[k]'h).n).isSome && fxB c n team (l[k]'h) && !cen ((lookT m (l[k]'h).t (l[k]'h).n).getD ⟨0, 0, 0, 0⟩))) := by
  unfold movB; rw [List.take_succ_eq_append_getElem h, any_snoc]
/-- The stones, sorted by their names. -/
def srt (l : List St) : List St := l.mergeSort (fun a b => decide (kyS a ≤ kyS b))
theorem srt_perm (l : List St) : (srt l).Perm l := List.mergeSort_perm _ _
theorem srt_pw (l : List St) : (srt l).Pairwise (fun a b => kyS a ≤ kyS b) := by
  have h := List.pairwise_mergeSort (le := fun a b => decide (kyS a ≤ kyS b)) (fun a b c h1 h2 => by simp only [decide_eq_true_eq] at *; omega) (fun a b => by simp only [Bool.or_eq_true, decide_eq_true_eq]; omega) l
  exact h.imp (fun h => by simpa using h)
/-- No two stones of a list have a name in common. -/
def dis (l : List St) : Prop := ∀ a ∈ l, ∀ b ∈ l, a.t = b.t → a.n = b.n → a = b
theorem srt_uniq {l l' : List St} (hb : ∀ s ∈ l, bnd s) (hd : dis l) (hp : l'.Perm l) (hs : l'.Pairwise (fun a b => kyS a ≤ kyS b)) : l' = srt l := by
  refine List.Perm.eq_of_pairwise (le := fun a b => kyS a ≤ kyS b) ?_ hs (srt_pw l) (hp.trans (srt_perm l).symm)
  intro a b ha hb' h1 h2
  have ha' := hp.mem_iff.1 ha
  have hb2 := (srt_perm l).mem_iff.1 hb'
  have k1 := hb a ha'
  have k2 := hb b hb2
  unfold bnd at k1 k2
  unfold kyS at h1 h2
  exact hd a ha' b hb2 (by omega) (by omega)
theorem good_names {l : List St} : ∀ {k : Nat}, k ≤ l.length → goodF (l.take k) (l.drop k) = true → ∀ j (hj : j < l.length), k ≤ j → ∀ i (hi : i < j), nameB (l[i]'(by omega)) (l[j]'hj) = false := by
  intro k hk h j hj hkj
  induction hd : l.length - k generalizing k with
  | zero => omega
  | succ n ih =>
    have hlt : k < l.length := by omega
    rw [goodF_step hlt, Bool.and_eq_true, Bool.and_eq_true] at h
    by_cases e : j = k
    · subst e
      intro i hi
      have h2 := List.all_eq_true.1 h.1.2 (l[i]'(by omega)) (by rw [List.mem_take_iff_getElem]; exact ⟨i, by omega, rfl⟩)
      simpa using h2
    · exact ih (k := k + 1) (by omega) h.2 (by omega) (by omega)
theorem chk_dis {l : List St} (h : chkB l = true) : dis l := by
  unfold chkB at h
  rw [Bool.and_eq_true, Bool.and_eq_true] at h
  have hn := good_names (l := l) (k := 0) (by omega) h.1.2
  intro a ha b hb e1 e2
  obtain ⟨i, hi, rfl⟩ := List.getElem_of_mem ha
  obtain ⟨j, hj, rfl⟩ := List.getElem_of_mem hb
  rcases Nat.lt_trichotomy i j with h3 | h3 | h3
  · have := hn j hj (by omega) i h3
    simp [nameB, e1, e2] at this
  · subst h3; rfl
  · have := hn i hi (by omega) j h3
    simp [nameB, e1, e2] at this
theorem chk_bnd {l : List St} (h : chkB l = true) : ∀ s ∈ l, bnd s := by
  intro s hs
  obtain ⟨j, hj, rfl⟩ := List.getElem_of_mem hs
  have := (chk_facts h).2 j hj
  unfold okSt at this
  exact this.1
theorem srt_len (l : List St) : (srt l).length = l.length := (srt_perm l).length_eq
/-- A throw's parts are valid. -/
def thrA (l m : List St) (x : Th) : Bool := chkB l && chkB m && decide (0 ≤ x.team ∧ x.team ≤ 1) && decide (0 ≤ x.n ∧ x.n ≤ 7) && decide (0 ≤ x.how ∧ x.how ≤ 4)
/-- A throw is valid. -/
def thrB (l m : List St) (x : Th) : Bool :=
  thrA l m x && !(lookT l x.team x.n).isSome && m.all (fun s => (lookT l s.t s.n).isSome || eqK s.t s.n x.team x.n) && (!x.short || eqL (srt l) (srt m))
theorem isB_iff (t n : Int) (s : St) : isB t n s = true ↔ s.t = t ∧ s.n = n := by unfold isB; simp
end Go.Proofs.YtmcpnoailbmkkaaGreatDoor
/- Layer 2: places. (By names: any seat.) -/
namespace Go.Proofs.YtmcpnoailbmkkaaGreatDoor
open Go Go.RowKit Go.Proofs
attribute [local irreducible] J JQ JL JA JD

theorem pNeg {P : Program} {n : Nat} {l : Sl} {o : Oper} {t : TypeId} {x : Operand} {a : Int} (ho : o.op = .unOp .neg t x) (hx : evl l x = some (.int .i64 a)) (ha : -9223372036854775807 ≤ a ∧ a ≤ 9223372036854775807) : RP P n l o (.int .i64 (-a)) := rp1 hx (fun ρ h1 w => by
 have h2 : IntKind.i64.wrap (-a) = -a := wrap64 (by omega)
 unfold execOp
 simp only [ho, h1]
 go_simp)
abbrev Sp (x y : Int) : Value := .agg #[.int .i64 x, .int .i64 y]
theorem sqd_ok {x y : Int} (h : ab x ≤ 146145280 ∧ ab y ≤ 409993216) : (0 ≤ x * x ∧ x * x ≤ 21358442866278400) ∧ 0 ≤ y * y ∧ y * y ≤ 168094437166022656 :=
 ⟨sq_bound h.1, sq_bound h.2⟩
theorem ab_le {x B : Int} : ab x ≤ B ↔ -B ≤ x ∧ x ≤ B := by unfold ab; split <;> omega
theorem ab_max (x : Int) : max x (-x) = ab x := by unfold ab; split <;> omega
set_option maxRecDepth 100000 in
set_option maxHeartbeats 4000000 in
theorem rwithin (n a b : Int) (w : World) : Calls Tryz.prog 27 #[.int .i64 n, .int .i64 a, .int .i64 b] w (Back (.bool (decide (a ≤ n ∧ n ≤ b))) w) := by
 refine J_enter (fun _ => False) (vs := [.int .i64 n, .int .i64 a, .int .i64 b]) (k := 12) (l := [(0, .int .i64 n), (1, .int .i64 a), (2, .int .i64 b)]) Tryz.func27 rfl rfl Tryz.ntmps27 rfl rfl (Wd.start _) ?_
 refine s10 ?_
 refine JL_dec (fun h9 => ?_) (fun h9 => ?_)
 ·refine s4 ?_
  refine JL_dec (fun h13 => ?_) (fun h13 => ?_)
  ·refine s5 ?_
   refine JR_one rfl (rr_tmp rfl) ?_
   intro w' hw
   exact ⟨by congr 2; exact (by first | exact (decide_eq_true (by omega)).symm | exact (decide_eq_false (by omega)).symm), hw.bel⟩
  ·refine s5 ?_
   refine JR_one rfl (rr_tmp rfl) ?_
   intro w' hw
   exact ⟨by congr 2; exact (by first | exact (decide_eq_true (by omega)).symm | exact (decide_eq_false (by omega)).symm), hw.bel⟩
 ·refine s9 ?_
  refine JR_one rfl (rr_tmp rfl) ?_
  intro w' hw
  exact ⟨by congr 2; exact (by first | exact (decide_eq_true (by omega)).symm | exact (decide_eq_false (by omega)).symm), hw.bel⟩
set_option maxRecDepth 100000 in
set_option maxHeartbeats 4000000 in
theorem swithin (n a b : Int) (w : World) : Calls Tryz.prog 82 #[.int .i64 n, .int .i64 a, .int .i64 b] w (Back (.bool (decide (a ≤ n ∧ n ≤ b))) w) := by
 refine J_enter (fun _ => False) (vs := [.int .i64 n, .int .i64 a, .int .i64 b]) (k := 12) (l := [(0, .int .i64 n), (1, .int .i64 a), (2, .int .i64 b)]) Tryz.func82 rfl rfl Tryz.ntmps82 rfl rfl (Wd.start _) ?_
 refine s10 ?_
 refine JL_dec (fun h9 => ?_) (fun h9 => ?_)
 ·refine s4 ?_
  refine JL_dec (fun h13 => ?_) (fun h13 => ?_)
  ·refine s5 ?_
   refine JR_one rfl (rr_tmp rfl) ?_
   intro w' hw
   exact ⟨by congr 2; exact (by first | exact (decide_eq_true (by omega)).symm | exact (decide_eq_false (by omega)).symm), hw.bel⟩
  ·refine s5 ?_
   refine JR_one rfl (rr_tmp rfl) ?_
   intro w' hw
   exact ⟨by congr 2; exact (by first | exact (decide_eq_true (by omega)).symm | exact (decide_eq_false (by omega)).symm), hw.bel⟩
 ·refine s9 ?_
  refine JR_one rfl (rr_tmp rfl) ?_
  intro w' hw
  exact ⟨by congr 2; exact (by first | exact (decide_eq_true (by omega)).symm | exact (decide_eq_false (by omega)).symm), hw.bel⟩
set_option maxRecDepth 100000 in
set_option maxHeartbeats 4000000 in
theorem swithinF (n a b : Int) (w : World) : Calls Tryz.prog 117 #[.int .i64 n, .int .i64 a, .int .i64 b] w (Back (.bool (decide (a ≤ n ∧ n ≤ b))) w) := by
 refine J_enter (fun _ => False) (vs := [.int .i64 n, .int .i64 a, .int .i64 b]) (k := 12) (l := [(0, .int .i64 n), (1, .int .i64 a), (2, .int .i64 b)]) Tryz.func117 rfl rfl Tryz.ntmps117 rfl rfl (Wd.start _) ?_
 refine s10 ?_
 refine JL_dec (fun h9 => ?_) (fun h9 => ?_)
 ·refine s4 ?_
  refine JL_dec (fun h13 => ?_) (fun h13 => ?_)
  ·refine s5 ?_
   refine JR_one rfl (rr_tmp rfl) ?_
   intro w' hw
   exact ⟨by congr 2; exact (by first | exact (decide_eq_true (by omega)).symm | exact (decide_eq_false (by omega)).symm), hw.bel⟩
  ·refine s5 ?_
   refine JR_one rfl (rr_tmp rfl) ?_
   intro w' hw
   exact ⟨by congr 2; exact (by first | exact (decide_eq_true (by omega)).symm | exact (decide_eq_false (by omega)).symm), hw.bel⟩
 ·refine s9 ?_
  refine JR_one rfl (rr_tmp rfl) ?_
  intro w' hw
  exact ⟨by congr 2; exact (by first | exact (decide_eq_true (by omega)).symm | exact (decide_eq_false (by omega)).symm), hw.bel⟩
set_option maxRecDepth 100000 in
set_option maxHeartbeats 4000000 in
theorem CheckSpot_any (x y : Int) (w : World) : Calls Tryz.prog 69 #[Sp x y] w (Back (.bool (decide (OkS x y))) w) := by
 refine J_enter (fun _ => False) (vs := [.agg #[.int .i64 x, .int .i64 y]]) (k := 10) (l := [(0, .agg #[.int .i64 x, .int .i64 y])]) Tryz.func69 rfl rfl Tryz.ntmps69 rfl rfl (Wd.start _) ?_
 refine s2 ?_
 refine aW (oX [_, _]) (fun b1 hb1 => ?_)
 refine s7 ?_
 refine aCB (fun w hw => swithinF _ _ _ w) ?_
 refine JL_dec (fun h5 => ?_) (fun h5 => ?_)
 ·refine s3 ?_
  refine aCB (fun w hw => swithinF _ _ _ w) ?_
  refine JL_dec (fun h9 => ?_) (fun h9 => ?_)
  ·refine s5 ?_
   refine JR_one rfl (rr_tmp rfl) ?_
   intro w' hw
   exact ⟨by congr 2; exact (by first | exact (decide_eq_true (by unfold OkS; omega)).symm | exact (decide_eq_false (by unfold OkS; omega)).symm), hw.bel⟩
  ·refine s5 ?_
   refine JR_one rfl (rr_tmp rfl) ?_
   intro w' hw
   exact ⟨by congr 2; exact (by first | exact (decide_eq_true (by unfold OkS; omega)).symm | exact (decide_eq_false (by unfold OkS; omega)).symm), hw.bel⟩
 ·refine s9 ?_
  refine JR_one rfl (rr_tmp rfl) ?_
  intro w' hw
  exact ⟨by congr 2; exact (by first | exact (decide_eq_true (by unfold OkS; omega)).symm | exact (decide_eq_false (by unfold OkS; omega)).symm), hw.bel⟩
set_option maxRecDepth 100000 in
set_option maxHeartbeats 4000000 in
theorem refCheckSpot (x y : Int) (w : World) : Calls Tryz.prog 33 #[Sp x y] w (Back (.bool (decide (OkS x y))) w) := by
 refine J_enter (fun _ => False) (vs := [.agg #[.int .i64 x, .int .i64 y]]) (k := 20) (l := [(0, .agg #[.int .i64 x, .int .i64 y])]) Tryz.func33 rfl rfl Tryz.ntmps33 rfl rfl (Wd.start _) ?_
 refine s2 ?_
 refine aW (oX [_, _]) (fun b1 hb1 => ?_)
 refine s8 ?_
 refine JL_dec (fun h5 => ?_) (fun h5 => ?_)
 ·refine s4 ?_
  refine JL_dec (fun h9 => ?_) (fun h9 => ?_)
  ·refine s5 ?_
   refine JL_dec (fun h14 => ?_) (fun h14 => ?_)
   ·refine s5 ?_
    refine JL_dec (fun h19 => ?_) (fun h19 => ?_)
    ·refine s5 ?_
     refine JR_one rfl (rr_tmp rfl) ?_
     intro w' hw
     exact ⟨by congr 2; exact (by first | exact (decide_eq_true (by unfold OkS; omega)).symm | exact (decide_eq_false (by unfold OkS; omega)).symm), hw.bel⟩
    ·refine s5 ?_
     refine JR_one rfl (rr_tmp rfl) ?_
     intro w' hw
     exact ⟨by congr 2; exact (by first | exact (decide_eq_true (by unfold OkS; omega)).symm | exact (decide_eq_false (by unfold OkS; omega)).symm), hw.bel⟩
   ·refine s10 ?_
    refine JR_one rfl (rr_tmp rfl) ?_
    intro w' hw
    exact ⟨by congr 2; exact (by first | exact (decide_eq_true (by unfold OkS; omega)).symm | exact (decide_eq_false (by unfold OkS; omega)).symm), hw.bel⟩
  ·refine s15 ?_
   refine JR_one rfl (rr_tmp rfl) ?_
   intro w' hw
   exact ⟨by congr 2; exact (by first | exact (decide_eq_true (by unfold OkS; omega)).symm | exact (decide_eq_false (by unfold OkS; omega)).symm), hw.bel⟩
 ·refine s19 ?_
  refine JR_one rfl (rr_tmp rfl) ?_
  intro w' hw
  exact ⟨by congr 2; exact (by first | exact (decide_eq_true (by unfold OkS; omega)).symm | exact (decide_eq_false (by unfold OkS; omega)).symm), hw.bel⟩
set_option maxRecDepth 100000 in
set_option maxHeartbeats 4000000 in
theorem size_any (x : Int) (hx : -9223372036854775807 ≤ x ∧ x ≤ 9223372036854775807) (w : World) : Calls Tryz.prog 118 #[.int .i64 x] w (Back (.int .i64 (ab x)) w) := by
 refine J_enter (fun _ => False) (vs := [.int .i64 x]) (k := 6) (l := [(0, .int .i64 x)]) Tryz.func118 rfl rfl Tryz.ntmps118 rfl rfl (Wd.start _) ?_
 refine s9 ?_
 refine aP (pNeg rfl rfl hx) ?_
 refine s5 ?_
 refine JR_one rfl (rr_tmp rfl) ?_
 intro w' hw
 exact ⟨by rw [ab_max], hw.bel⟩
set_option maxRecDepth 100000 in
set_option maxHeartbeats 4000000 in
theorem refSize (x : Int) (hx : -9223372036854775807 ≤ x ∧ x ≤ 9223372036854775807) (w : World) : Calls Tryz.prog 35 #[.int .i64 x] w (Back (.int .i64 (ab x)) w) := by
 refine J_enter (fun _ => False) (vs := [.int .i64 x]) (k := 6) (l := [(0, .int .i64 x)]) Tryz.func35 rfl rfl Tryz.ntmps35 rfl rfl (Wd.start _) ?_
 refine s9 ?_
 refine aP (pNeg rfl rfl hx) ?_
 refine s5 ?_
 refine JR_one rfl (rr_tmp rfl) ?_
 intro w' hw
 exact ⟨by rw [ab_max], hw.bel⟩
set_option maxRecDepth 100000 in
set_option maxHeartbeats 4000000 in
theorem square_any (x y : Int) (h : ab x ≤ 146145280 ∧ ab y ≤ 409993216) (w : World) : Calls Tryz.prog 68 #[Sp x y] w (Back (.int .i64 (sqd x y)) w) := by
 obtain ⟨⟨hx0, hx1⟩, hy0, hy1⟩ := sqd_ok h
 refine J_enter (fun _ => False) (vs := [.agg #[.int .i64 x, .int .i64 y]]) (k := 13) (l := [(0, .agg #[.int .i64 x, .int .i64 y])]) Tryz.func68 rfl rfl Tryz.ntmps68 rfl rfl (Wd.start _) ?_
 refine s2 ?_
 refine aW (oX [_, _]) (fun b1 hb1 => ?_)
 refine s9 ?_
 refine aP (pMul rfl rfl rfl) ?_
 refine s4 ?_
 refine aP (pMul rfl rfl rfl) ?_
 refine aP (pAdd rfl rfl rfl) ?_
 refine s4 ?_
 refine JR_one rfl (rr_tmp rfl) ?_
 intro w' hw
 exact ⟨rfl, hw.bel⟩
set_option maxRecDepth 100000 in
set_option maxHeartbeats 4000000 in
theorem zone_any (x y : Int) (hk : OkS x y) (w : World) : Calls Tryz.prog 70 #[Sp x y] w (Back (.int .i64 (zoneZ x y)) w) := by
 have hk0 := hk
 unfold OkS at hk0
 have hab := ab_nn x
 have hab2 : ab x ≤ 6553600000 := ab_le.2 (by omega)
 refine J_enter (fun _ => False) (vs := [.agg #[.int .i64 x, .int .i64 y]]) (k := 25) (l := [(0, .agg #[.int .i64 x, .int .i64 y])]) Tryz.func70 rfl rfl Tryz.ntmps70 rfl rfl (Wd.start _) ?_
 refine s2 ?_
 refine aW (oX [_, _]) (fun b1 hb1 => ?_)
 refine s10 ?_
 refine aCB (fun w hw => size_any x (by omega) w) ?_
 refine s2 ?_
 refine JL_dec (fun h8 => ?_) (fun h8 => ?_)
 ·refine s8 ?_
  refine kJ [] ?_
  refine s7 ?_
  refine JR_one rfl (rr_tmp rfl) ?_
  intro w' hw
  have e : zoneZ x y = 0 := by unfold zoneZ; rw [if_neg (by unfold Play; omega)]
  rw [e]; exact ⟨rfl, hw.bel⟩
 ·refine s5 ?_
  refine kJ [(1, _)] ?_
  refine s5 ?_
  refine JL_dec (fun h12 => ?_) (fun h12 => ?_)
  ·refine s8 ?_
   refine kJ [] ?_
   refine s7 ?_
   refine JR_one rfl (rr_tmp rfl) ?_
   intro w' hw
   have e : zoneZ x y = 0 := by unfold zoneZ; rw [if_neg (by unfold Play; omega)]
   rw [e]; exact ⟨rfl, hw.bel⟩
  ·refine s4 ?_
   refine kJ [(1, _)] ?_
   refine s5 ?_
   refine JL_dec (fun h16 => ?_) (fun h16 => ?_)
   ·refine s5 ?_
    refine kJ [] ?_
    refine s7 ?_
    refine JR_one rfl (rr_tmp rfl) ?_
    intro w' hw
    have e : zoneZ x y = 0 := by unfold zoneZ; rw [if_neg (by unfold Play; omega)]
    rw [e]; exact ⟨rfl, hw.bel⟩
   ·refine s5 ?_
    have hpl : Play x y := by unfold Play; omega
    refine kJ [(1, _)] ?_
    refine s2 ?_
    refine aCB (fun w hw => square_any x y (play_bound hpl) w) ?_
    refine s1 ?_
    refine JL_dec (fun h20 => ?_) (fun h20 => ?_)
    ·refine s5 ?_
     refine kJ [] ?_
     refine s7 ?_
     refine JR_one rfl (rr_tmp rfl) ?_
     intro w' hw
     have e : zoneZ x y = 2 := by unfold zoneZ; rw [if_pos hpl, if_pos h20]
     rw [e]; exact ⟨rfl, hw.bel⟩
    ·refine s5 ?_
     refine kJ [(1, _)] ?_
     refine s5 ?_
     refine JL_dec (fun h25 => ?_) (fun h25 => ?_)
     ·refine s5 ?_
      refine kJ [] ?_
      refine s7 ?_
      refine JR_one rfl (rr_tmp rfl) ?_
      intro w' hw
      have e : zoneZ x y = 1 := by unfold zoneZ; rw [if_pos hpl, if_neg h20, if_pos h25]
      rw [e]; exact ⟨rfl, hw.bel⟩
     ·refine s8 ?_
      refine kJ [] ?_
      refine s5 ?_
      refine JR_one rfl (rr_tmp rfl) ?_
      intro w' hw
      have e : zoneZ x y = 3 := by unfold zoneZ; rw [if_pos hpl, if_neg h20, if_neg h25]
      rw [e]; exact ⟨rfl, hw.bel⟩
set_option maxRecDepth 100000 in
set_option maxHeartbeats 4000000 in
theorem refPlaying (x y : Int) (hk : OkS x y) (w : World) : Calls Tryz.prog 34 #[Sp x y] w (Back (.bool (decide (Play x y))) w) := by
 have hk0 := hk
 unfold OkS at hk0
 have hab := ab_nn x
 have hab2 : ab x ≤ 6553600000 := ab_le.2 (by omega)
 refine J_enter (fun _ => False) (vs := [.agg #[.int .i64 x, .int .i64 y]]) (k := 23) (l := [(0, .agg #[.int .i64 x, .int .i64 y])]) Tryz.func34 rfl rfl Tryz.ntmps34 rfl rfl (Wd.start _) ?_
 refine s2 ?_
 refine aW (oX [_, _]) (fun b1 hb1 => ?_)
 refine s7 ?_
 refine aCB (fun w hw => refSize x (by omega) w) ?_
 refine s2 ?_
 refine JL_dec (fun h9 => ?_) (fun h9 => ?_)
 ·refine s4 ?_
  refine kJ [(1, _), (3, _)] ?_
  refine s5 ?_
  refine JL_dec (fun h13 => ?_) (fun h13 => ?_)
  ·refine s4 ?_
   refine kJ [(1, _), (3, _), (4, _)] ?_
   refine s10 ?_
   refine JL_dec (fun h22 => ?_) (fun h22 => ?_)
   ·refine s5 ?_
    refine JR_one rfl (rr_tmp rfl) ?_
    intro w' hw
    exact ⟨by congr 2; exact (by first | exact (decide_eq_true (by unfold Play; omega)).symm | exact (decide_eq_false (by unfold Play; omega)).symm), hw.bel⟩
   ·refine s5 ?_
    refine JR_one rfl (rr_tmp rfl) ?_
    intro w' hw
    exact ⟨by congr 2; exact (by first | exact (decide_eq_true (by unfold Play; omega)).symm | exact (decide_eq_false (by unfold Play; omega)).symm), hw.bel⟩
  ·refine s4 ?_
   refine kJ [(1, _), (3, _), (4, _)] ?_
   refine s15 ?_
   refine JR_one rfl (rr_tmp rfl) ?_
   intro w' hw
   exact ⟨by congr 2; exact (by first | exact (decide_eq_true (by unfold Play; omega)).symm | exact (decide_eq_false (by unfold Play; omega)).symm), hw.bel⟩
 ·refine s4 ?_
  refine kJ [(1, _), (3, _)] ?_
  refine s5 ?_
  refine JL_dec (fun h13 => ?_) (fun h13 => ?_)
  ·refine s4 ?_
   refine kJ [(1, _), (3, _), (4, _)] ?_
   refine s15 ?_
   refine JR_one rfl (rr_tmp rfl) ?_
   intro w' hw
   exact ⟨by congr 2; exact (by first | exact (decide_eq_true (by unfold Play; omega)).symm | exact (decide_eq_false (by unfold Play; omega)).symm), hw.bel⟩
  ·refine s4 ?_
   refine kJ [(1, _), (3, _), (4, _)] ?_
   refine s15 ?_
   refine JR_one rfl (rr_tmp rfl) ?_
   intro w' hw
   exact ⟨by congr 2; exact (by first | exact (decide_eq_true (by unfold Play; omega)).symm | exact (decide_eq_false (by unfold Play; omega)).symm), hw.bel⟩
end Go.Proofs.YtmcpnoailbmkkaaGreatDoor
/- Layers 2, 7: zones, codes, what is protected. -/
namespace Go.Proofs.YtmcpnoailbmkkaaGreatDoor
open Go Go.RowKit Go.Proofs
attribute [local irreducible] J JQ JL JA JD

def zoneR (x y : Int) : Value := if OkS x y then .tuple #[.int .i64 (zoneZ x y), .int .i64 0] else .tuple #[.int .i64 0, .int .i64 2]
def onR (x y : Int) : Value := if OkS x y then .tuple #[.bool (decide (Play x y ∧ ab x ≤ 9502720)), .int .i64 0] else .tuple #[.bool false, .int .i64 2]
theorem zoneR_zn (x y : Int) : ∃ k : Int, zoneR x y = .tuple #[.int .i64 (zn x y), .int .i64 k] := by
 unfold zoneR zn
 by_cases h : OkS x y
 ·exact ⟨0, by rw [if_pos h, if_pos h]⟩
 ·exact ⟨2, by rw [if_neg h, if_neg h]⟩
theorem onR_cen (s : St) : ∃ k : Int, onR s.x s.y = .tuple #[.bool (cen s), .int .i64 k] := by
 unfold onR cen
 by_cases h : OkS s.x s.y
 ·exact ⟨0, by rw [if_pos h, decide_eq_true h]; rfl⟩
 ·exact ⟨2, by rw [if_neg h, decide_eq_false h]; rfl⟩
def eT (s : St) : List Value := [.int .i64 s.t, .int .i64 s.n, .int .i64 s.x, .int .i64 s.y]
theorem ET : Enc 4 eT := ⟨fun _ => rfl, fun x v h => by simp [eT] at h; rcases h with rfl | rfl | rfl | rfl <;> rfl⟩
abbrev Stv (s : St) : Value := .agg #[.int .i64 s.t, .int .i64 s.n, .int .i64 s.x, .int .i64 s.y]
abbrev Cdv (c : Cd) : Value := .agg #[.int .i64 c.f, .int .i64 c.t, .int .i64 c.s, .int .i64 c.e, .bool c.p]
abbrev Tnv (c : Cd) (n team : Int) : Value := .agg #[.int .i64 c.f, .int .i64 c.t, .int .i64 c.s, .int .i64 c.e, .bool c.p, .int .i64 n, .int .i64 team]
set_option maxRecDepth 100000 in
set_option maxHeartbeats 4000000 in
theorem Zone_any (x y : Int) (w : World) : Calls Tryz.prog 24 #[Sp x y] w (Back (zoneR x y) w) := by
 refine J_enter (fun _ => False) (vs := [.agg #[.int .i64 x, .int .i64 y]]) (k := 8) (l := [(0, .agg #[.int .i64 x, .int .i64 y])]) Tryz.func24 rfl rfl Tryz.ntmps24 rfl rfl (Wd.start _) ?_
 refine s2 ?_
 refine aW (oX [_, _]) (fun b1 hb1 => ?_)
 refine s6 ?_
 by_cases hk : OkS x y
 ·have hk0 := hk
  unfold OkS at hk0
  refine s2 ?_
  refine aCB (fun w hw => CheckSpot_any x y w) ?_
  refine aDecT ?_ hk
  refine s7 ?_
  refine kJ [(1, _)] ?_
  refine s2 ?_
  refine aCB (fun w hw => zone_any x y hk w) ?_
  refine s5 ?_
  refine JR_two rfl (rr_tmp rfl) (rr_tmp rfl) ?_
  intro w' hw
  exact ⟨by unfold zoneR; rw [if_pos hk], hw.bel⟩
 ·refine s2 ?_
  refine aCB (fun w hw => CheckSpot_any x y w) ?_
  refine aDecF ?_ hk
  refine s5 ?_
  refine kJ [] ?_
  refine s7 ?_
  refine JR_two rfl (rr_tmp rfl) (rr_tmp rfl) ?_
  intro w' hw
  exact ⟨by unfold zoneR; rw [if_neg hk], hw.bel⟩
set_option maxRecDepth 100000 in
set_option maxHeartbeats 4000000 in
theorem OnCentre_any (x y : Int) (w : World) : Calls Tryz.prog 134 #[Sp x y] w (Back (onR x y) w) := by
 refine J_enter (fun _ => False) (vs := [.agg #[.int .i64 x, .int .i64 y]]) (k := 15) (l := [(0, .agg #[.int .i64 x, .int .i64 y])]) Tryz.func134 rfl rfl Tryz.ntmps134 rfl rfl (Wd.start _) ?_
 refine s2 ?_
 refine aW (oX [_, _]) (fun b1 hb1 => ?_)
 refine s6 ?_
 by_cases hk : OkS x y
 ·have hk0 := hk
  unfold OkS at hk0
  refine s2 ?_
  refine aCB (fun w hw => CheckSpot_any x y w) ?_
  refine aDecT ?_ hk
  refine s7 ?_
  refine kJ [(1, _)] ?_
  refine s2 ?_
  refine aCB (fun w hw => zone_any x y hk w) ?_
  refine s1 ?_
  refine JL_dec (fun h9 => ?_) (fun h9 => ?_)
  ·refine s3 ?_
   refine aCB (fun w hw => size_any x (by unfold OkS at hk; omega) w) ?_
   refine s1 ?_
   refine JL_dec (fun h14 => ?_) (fun h14 => ?_)
   ·refine s6 ?_
    refine JR_two rfl (rr_tmp rfl) (rr_tmp rfl) ?_
    intro w' hw
    have e : decide (Play x y ∧ ab x ≤ 9502720) = true := decide_eq_true ⟨(Decidable.not_not.1 (fun h => h9 ((zone_away x y).2 h))), h14⟩
    exact ⟨by unfold onR; rw [if_pos hk, e], hw.bel⟩
   ·refine s6 ?_
    refine JR_two rfl (rr_tmp rfl) (rr_tmp rfl) ?_
    intro w' hw
    have e : decide (Play x y ∧ ab x ≤ 9502720) = false := decide_eq_false (fun h => h14 h.2)
    exact ⟨by unfold onR; rw [if_pos hk, e], hw.bel⟩
  ·refine s11 ?_
   refine JR_two rfl (rr_tmp rfl) (rr_tmp rfl) ?_
   intro w' hw
   have e : decide (Play x y ∧ ab x ≤ 9502720) = false := decide_eq_false (fun h => h9 (fun h0 => (zone_away x y).1 h0 h.1))
   exact ⟨by unfold onR; rw [if_pos hk, e], hw.bel⟩
 ·refine s2 ?_
  refine aCB (fun w hw => CheckSpot_any x y w) ?_
  refine aDecF ?_ hk
  refine s5 ?_
  refine kJ [] ?_
  refine s7 ?_
  refine JR_two rfl (rr_tmp rfl) (rr_tmp rfl) ?_
  intro w' hw
  exact ⟨by unfold onR; rw [if_neg hk], hw.bel⟩
set_option maxRecDepth 100000 in
set_option maxHeartbeats 4000000 in
theorem refOnCentre (x y : Int) (w : World) : Calls Tryz.prog 9 #[Sp x y] w (Back (onR x y) w) := by
 refine J_enter (fun _ => False) (vs := [.agg #[.int .i64 x, .int .i64 y]]) (k := 14) (l := [(0, .agg #[.int .i64 x, .int .i64 y])]) Tryz.func9 rfl rfl Tryz.ntmps9 rfl rfl (Wd.start _) ?_
 refine s2 ?_
 refine aW (oX [_, _]) (fun b1 hb1 => ?_)
 refine s6 ?_
 by_cases hk : OkS x y
 ·have hk0 := hk
  unfold OkS at hk0
  refine s2 ?_
  refine aCB (fun w hw => refCheckSpot x y w) ?_
  refine aDecT ?_ hk
  refine s7 ?_
  refine kJ [(1, _)] ?_
  refine s2 ?_
  refine aCB (fun w hw => refPlaying x y hk w) ?_
  refine JL_dec (fun h8 => ?_) (fun h8 => ?_)
  ·refine s3 ?_
   refine aCB (fun w hw => refSize x (by unfold OkS at hk; omega) w) ?_
   refine s1 ?_
   refine JL_dec (fun h13 => ?_) (fun h13 => ?_)
   ·refine s6 ?_
    refine JR_two rfl (rr_tmp rfl) (rr_tmp rfl) ?_
    intro w' hw
    have e : decide (Play x y ∧ ab x ≤ 9502720) = true := decide_eq_true ⟨h8, h13⟩
    exact ⟨by unfold onR; rw [if_pos hk, e], hw.bel⟩
   ·refine s6 ?_
    refine JR_two rfl (rr_tmp rfl) (rr_tmp rfl) ?_
    intro w' hw
    have e : decide (Play x y ∧ ab x ≤ 9502720) = false := decide_eq_false (fun h => h13 h.2)
    exact ⟨by unfold onR; rw [if_pos hk, e], hw.bel⟩
  ·refine s11 ?_
   refine JR_two rfl (rr_tmp rfl) (rr_tmp rfl) ?_
   intro w' hw
   have e : decide (Play x y ∧ ab x ≤ 9502720) = false := decide_eq_false (fun h => h8 h.1)
   exact ⟨by unfold onR; rw [if_pos hk, e], hw.bel⟩
 ·refine s2 ?_
  refine aCB (fun w hw => refCheckSpot x y w) ?_
  refine aDecF ?_ hk
  refine s5 ?_
  refine kJ [] ?_
  refine s7 ?_
  refine JR_two rfl (rr_tmp rfl) (rr_tmp rfl) ?_
  intro w' hw
  exact ⟨by unfold onR; rw [if_neg hk], hw.bel⟩
theorem ccB_iff {c : Cd} : ccB c = true ↔ (0 ≤ c.f ∧ c.f ≤ 16) ∧ (0 ≤ c.t ∧ c.t ≤ 16) ∧ (0 ≤ c.s ∧ c.s ≤ 16) ∧ (1 ≤ c.e ∧ c.e ≤ 8) ∧ (c.p = true → c.e ≤ 7) := by
 unfold ccB okN
 obtain ⟨f, t, s, e, p⟩ := c
 cases p <;> simp [and_assoc]
theorem cc_yes {c : Cd} (h : (0 ≤ c.f ∧ c.f ≤ 16) ∧ (0 ≤ c.t ∧ c.t ≤ 16) ∧ (0 ≤ c.s ∧ c.s ≤ 16) ∧ (1 ≤ c.e ∧ c.e ≤ 8) ∧ (c.p = true → c.e ≤ 7)) : true = ccB c := (ccB_iff.2 h).symm
theorem cc_no {c : Cd} (h : ¬ ((0 ≤ c.f ∧ c.f ≤ 16) ∧ (0 ≤ c.t ∧ c.t ≤ 16) ∧ (0 ≤ c.s ∧ c.s ≤ 16) ∧ (1 ≤ c.e ∧ c.e ≤ 8) ∧ (c.p = true → c.e ≤ 7))) : false = ccB c := (Bool.eq_false_iff.2 (fun h' => h (ccB_iff.1 h'))).symm
set_option maxRecDepth 100000 in
set_option maxHeartbeats 4000000 in
theorem central_any (s : St) (w : World) : Calls Tryz.prog 85 #[Stv s] w (Back (.bool (cen s)) w) := by
 obtain ⟨st_, sn, sx, sy⟩ := s
 obtain ⟨k0, hc0⟩ := onR_cen ⟨st_, sn, sx, sy⟩
 refine J_enter (fun _ => False) (vs := [.agg #[.int .i64 st_, .int .i64 sn, .int .i64 sx, .int .i64 sy]]) (k := 11) (l := [(0, .agg #[.int .i64 st_, .int .i64 sn, .int .i64 sx, .int .i64 sy])]) Tryz.func85 rfl rfl Tryz.ntmps85 rfl rfl (Wd.start _) ?_
 refine s2 ?_
 refine aW (oX [_, _, _, _]) (fun b1 hb1 => ?_)
 refine s7 ?_
 refine aCB (fun w hw => (OnCentre_any sx sy w).mono (fun _ _ h => by rw [hc0] at h; exact h)) ?_
 refine s8 ?_
 refine kJ [(3, _)] ?_
 refine s6 ?_
 refine JR_one rfl (rr_tmp rfl) ?_
 intro w' hw
 exact ⟨rfl, hw.bel⟩
end Go.Proofs.YtmcpnoailbmkkaaGreatDoor
/- Layers 2, 7: what is protected; contact; codes. -/
namespace Go.Proofs.YtmcpnoailbmkkaaGreatDoor
open Go Go.RowKit Go.Proofs
attribute [local irreducible] J JQ JL JA JD

theorem guB_iff {team : Int} {s : St} : guB team s = true ↔ s.t ≠ team ∧ zn s.x s.y = 1 := by unfold guB; simp
set_option maxRecDepth 100000 in
set_option maxHeartbeats 4000000 in
theorem guards_any (c : Cd) (n team : Int) (s : St) (w : World) : Calls Tryz.prog 84 #[Tnv c n team, Stv s] w (Back (.bool (guB team s)) w) := by
 obtain ⟨kf, kt, ks, ke, kp⟩ := c
 obtain ⟨st_, sn, sx, sy⟩ := s
 obtain ⟨k0, hc0⟩ := zoneR_zn sx sy
 refine J_enter (fun _ => False) (vs := [.agg #[.int .i64 kf, .int .i64 kt, .int .i64 ks, .int .i64 ke, .bool kp, .int .i64 n, .int .i64 team], .agg #[.int .i64 st_, .int .i64 sn, .int .i64 sx, .int .i64 sy]]) (k := 20) (l := [(0, .agg #[.int .i64 kf, .int .i64 kt, .int .i64 ks, .int .i64 ke, .bool kp, .int .i64 n, .int .i64 team]), (1, .agg #[.int .i64 st_, .int .i64 sn, .int .i64 sx, .int .i64 sy])]) Tryz.func84 rfl rfl Tryz.ntmps84 rfl rfl (Wd.start _) ?_
 refine s2 ?_
 refine aW (oX [_, _, _, _, _, _, _]) (fun b2 hb2 => ?_)
 refine aW (oX [_, _, _, _]) (fun b3 hb3 => ?_)
 refine s7 ?_
 refine aCB (fun w hw => (Zone_any sx sy w).mono (fun _ _ h => by rw [hc0] at h; exact h)) ?_
 refine s8 ?_
 refine kJ [(2, _), (3, _), (5, _)] ?_
 refine s6 ?_
 refine JL_dec (fun h17 => ?_) (fun h17 => ?_)
 ·refine s3 ?_
  refine JL_dec (fun h20 => ?_) (fun h20 => ?_)
  ·refine s5 ?_
   refine JR_one rfl (rr_tmp rfl) ?_
   intro w' hw
   exact ⟨by congr 2; exact (guB_iff.2 ⟨h17, h20⟩).symm, hw.bel⟩
  ·refine s5 ?_
   refine JR_one rfl (rr_tmp rfl) ?_
   intro w' hw
   exact ⟨by congr 2; exact (Bool.eq_false_iff.2 (fun h => by have := guB_iff.1 h; exact h20 this.2)).symm, hw.bel⟩
 ·refine s8 ?_
  refine JR_one rfl (rr_tmp rfl) ?_
  intro w' hw
  exact ⟨by congr 2; exact (Bool.eq_false_iff.2 (fun h => by have := guB_iff.1 h; exact h17 this.1)).symm, hw.bel⟩
set_option maxRecDepth 100000 in
set_option maxHeartbeats 4000000 in
theorem keeps_any (c : Cd) (n team : Int) (s : St) (w : World) : Calls Tryz.prog 31 #[Tnv c n team, Stv s] w (Back (.bool (kpB c n team s)) w) := by
 obtain ⟨kf, kt, ks, ke, kp⟩ := c
 obtain ⟨st_, sn, sx, sy⟩ := s
 refine J_enter (fun _ => False) (vs := [.agg #[.int .i64 kf, .int .i64 kt, .int .i64 ks, .int .i64 ke, .bool kp, .int .i64 n, .int .i64 team], .agg #[.int .i64 st_, .int .i64 sn, .int .i64 sx, .int .i64 sy]]) (k := 22) (l := [(0, .agg #[.int .i64 kf, .int .i64 kt, .int .i64 ks, .int .i64 ke, .bool kp, .int .i64 n, .int .i64 team]), (1, .agg #[.int .i64 st_, .int .i64 sn, .int .i64 sx, .int .i64 sy])]) Tryz.func31 rfl rfl Tryz.ntmps31 rfl rfl (Wd.start _) ?_
 refine s2 ?_
 refine aW (oX [_, _, _, _, _, _, _]) (fun b2 hb2 => ?_)
 refine aW (oX [_, _, _, _]) (fun b3 hb3 => ?_)
 refine s11 ?_
 refine JL_dec (fun h10 => ?_) (fun h10 => ?_)
 ·refine s17 ?_
  refine JR_one rfl (rr_tmp rfl) ?_
  intro w' hw
  exact ⟨by congr 2; unfold kpB; simp [*], hw.bel⟩
 ·refine s7 ?_
  refine JL_dec (fun h17 => ?_) (fun h17 => ?_)
  ·refine s3 ?_
   refine aCB (fun w hw => guards_any ⟨kf, kt, ks, ke, kp⟩ n team ⟨st_, sn, sx, sy⟩ w) ?_
   refine JL_bool (fun h21 => ?_) (fun h21 => ?_)
   ·refine s6 ?_
    refine JR_one rfl (rr_tmp rfl) ?_
    intro w' hw
    exact ⟨by congr 2; unfold kpB; simp [*], hw.bel⟩
   ·refine s6 ?_
    refine JR_one rfl (rr_tmp rfl) ?_
    intro w' hw
    exact ⟨by congr 2; unfold kpB; simp [*], hw.bel⟩
  ·refine s10 ?_
   refine JR_one rfl (rr_tmp rfl) ?_
   intro w' hw
   exact ⟨by congr 2; unfold kpB; simp [*], hw.bel⟩
set_option maxRecDepth 100000 in
set_option maxHeartbeats 4000000 in
theorem fixes_any (c : Cd) (n team : Int) (s : St) (w : World) : Calls Tryz.prog 32 #[Tnv c n team, Stv s] w (Back (.bool (fxB c n team s)) w) := by
 obtain ⟨kf, kt, ks, ke, kp⟩ := c
 obtain ⟨st_, sn, sx, sy⟩ := s
 refine J_enter (fun _ => False) (vs := [.agg #[.int .i64 kf, .int .i64 kt, .int .i64 ks, .int .i64 ke, .bool kp, .int .i64 n, .int .i64 team], .agg #[.int .i64 st_, .int .i64 sn, .int .i64 sx, .int .i64 sy]]) (k := 18) (l := [(0, .agg #[.int .i64 kf, .int .i64 kt, .int .i64 ks, .int .i64 ke, .bool kp, .int .i64 n, .int .i64 team]), (1, .agg #[.int .i64 st_, .int .i64 sn, .int .i64 sx, .int .i64 sy])]) Tryz.func32 rfl rfl Tryz.ntmps32 rfl rfl (Wd.start _) ?_
 refine s2 ?_
 refine aW (oX [_, _, _, _, _, _, _]) (fun b2 hb2 => ?_)
 refine aW (oX [_, _, _, _]) (fun b3 hb3 => ?_)
 refine s11 ?_
 refine JL_dec (fun h10 => ?_) (fun h10 => ?_)
 ·refine s3 ?_
  refine aCB (fun w hw => guards_any ⟨kf, kt, ks, ke, kp⟩ n team ⟨st_, sn, sx, sy⟩ w) ?_
  refine JL_bool (fun h14 => ?_) (fun h14 => ?_)
  ·refine s3 ?_
   refine aCB (fun w hw => central_any ⟨st_, sn, sx, sy⟩ w) ?_
   refine JL_bool (fun h18 => ?_) (fun h18 => ?_)
   ·refine s5 ?_
    refine JR_one rfl (rr_tmp rfl) ?_
    intro w' hw
    exact ⟨by congr 2; unfold fxB; simp [*], hw.bel⟩
   ·refine s5 ?_
    refine JR_one rfl (rr_tmp rfl) ?_
    intro w' hw
    exact ⟨by congr 2; unfold fxB; simp [*], hw.bel⟩
  ·refine s9 ?_
   refine JR_one rfl (rr_tmp rfl) ?_
   intro w' hw
   exact ⟨by congr 2; unfold fxB; simp [*], hw.bel⟩
 ·refine s13 ?_
  refine JR_one rfl (rr_tmp rfl) ?_
  intro w' hw
  exact ⟨by congr 2; unfold fxB; simp [*], hw.bel⟩
end Go.Proofs.YtmcpnoailbmkkaaGreatDoor
/- Layers 2, 7: contact; codes. -/
namespace Go.Proofs.YtmcpnoailbmkkaaGreatDoor
open Go Go.RowKit Go.Proofs
attribute [local irreducible] J JQ JL JA JD

set_option maxRecDepth 100000 in
set_option maxHeartbeats 4000000 in
theorem contact_any (x y u v : Int) (h1 : OkS x y) (h2 : OkS u v) (w : World) : Calls Tryz.prog 133 #[Sp x y, Sp u v] w (Back (.int .i64 (touZ (x - u) (y - v))) w) := by
 have h1k := h1
 have h2k := h2
 unfold OkS at h1k h2k
 obtain ⟨p, hp⟩ : ∃ p, x - u = p := ⟨_, rfl⟩
 obtain ⟨q, hq⟩ : ∃ q, y - v = q := ⟨_, rfl⟩
 have hap := ab_nn p
 have haq := ab_nn q
 rw [hp, hq]
 refine J_enter (fun _ => False) (vs := [.agg #[.int .i64 x, .int .i64 y], .agg #[.int .i64 u, .int .i64 v]]) (k := 35) (l := [(0, .agg #[.int .i64 x, .int .i64 y]), (1, .agg #[.int .i64 u, .int .i64 v])]) Tryz.func133 rfl rfl Tryz.ntmps133 rfl rfl (Wd.start _) ?_
 refine s2 ?_
 refine aW (oX [_, _]) (fun b2 hb2 => ?_)
 refine aW (oX [_, _]) (fun b3 hb3 => ?_)
 refine s4 ?_
 refine xD [0, 1, 2, 3, 4, 5, 6, 7, 8, 9, 10, 11] [1, 3, 6, 8] ?_
 refine s5 ?_
 rw [hp]
 refine s5 ?_
 rw [hq]
 refine s6 ?_
 refine kJ [(5, _), (6, _)] ?_
 refine s2 ?_
 refine aCB (fun w hw => size_any p (by omega) w) ?_
 refine s1 ?_
 refine aCB (fun w hw => size_any q (by omega) w) ?_
 refine s2 ?_
 refine JL_dec (fun h23 => ?_) (fun h23 => ?_)
 ·refine s4 ?_
  refine kJ [] ?_
  refine s6 ?_
  refine JR_one rfl (rr_tmp rfl) ?_
  intro w' hw
  have e : touZ p q = 1 := by unfold touZ sqd; rw [if_pos (by omega)]
  rw [e]; exact ⟨rfl, hw.bel⟩
 ·refine s7 ?_
  have hsp := sq_bound (x := p) (B := 19005440) (by omega)
  have hsq := sq_bound (x := q) (B := 19005440) (by omega)
  refine kJ [(5, _), (6, _)] ?_
  refine s3 ?_
  refine aP (pMul rfl rfl rfl) ?_
  refine s2 ?_
  refine aP (pMul rfl rfl rfl) ?_
  refine aP (pAdd rfl rfl rfl) ?_
  refine s5 ?_
  refine kJ [(7, _)] ?_
  refine s3 ?_
  refine JL_dec (fun h33 => ?_) (fun h33 => ?_)
  ·refine s5 ?_
   refine kJ [] ?_
   refine s7 ?_
   refine JR_one rfl (rr_tmp rfl) ?_
   intro w' hw
   have e : touZ p q = -1 := by unfold touZ sqd; rw [if_neg (by omega), if_pos h33]
   rw [e]; exact ⟨rfl, hw.bel⟩
  ·refine s8 ?_
   refine JL_dec (fun h36 => ?_) (fun h36 => ?_)
   ·refine s5 ?_
    refine kJ [] ?_
    refine s7 ?_
    refine JR_one rfl (rr_tmp rfl) ?_
    intro w' hw
    have e : touZ p q = 1 := by unfold touZ sqd; rw [if_neg (by omega), if_neg (by omega), if_pos (by omega)]
    rw [e]; exact ⟨rfl, hw.bel⟩
   ·refine s8 ?_
    refine kJ [] ?_
    refine s5 ?_
    refine JR_one rfl (rr_tmp rfl) ?_
    intro w' hw
    have e : touZ p q = 0 := by unfold touZ sqd; rw [if_neg (by omega), if_neg (by omega), if_neg (by omega)]
    rw [e]; exact ⟨rfl, hw.bel⟩
set_option maxRecDepth 100000 in
set_option maxHeartbeats 4000000 in
theorem CheckCode_any (c : Cd) (w : World) : Calls Tryz.prog 25 #[Cdv c] w (Back (.bool (ccB c)) w) := by
 obtain ⟨kf, kt, ks, ke, kp⟩ := c
 refine J_enter (fun _ => False) (vs := [.agg #[.int .i64 kf, .int .i64 kt, .int .i64 ks, .int .i64 ke, .bool kp]]) (k := 33) (l := [(0, .agg #[.int .i64 kf, .int .i64 kt, .int .i64 ks, .int .i64 ke, .bool kp])]) Tryz.func25 rfl rfl Tryz.ntmps25 rfl rfl (Wd.start _) ?_
 refine s2 ?_
 refine aW (oX [_, _, _, _, _]) (fun b1 hb1 => ?_)
 refine s12 ?_
 refine aW (ow_sliceC (vs := [_, _, _]) (ty := 3) rfl rfl (by rfl) rfl rfl (fun _ => by kernel_rfl)) (fun b11 hb11 => ?_)
 refine s5 ?_
 refine xL (T := Nat) (fun k => k ≤ 3 ∧ ∀ j, j < k → 0 ≤ ([kf, kt, ks] : List Int).getD j 0 ∧ ([kf, kt, ks] : List Int).getD j 0 ≤ 16) (fun k => [(1, .pointer (some ⟨b1, 0, none⟩)), (11, .slice (some ⟨b11, 0, none⟩) 3 3), (12, .int .i64 3), (13, .int .i64 (k : Nat))]) (fun k => [cellB b11 [.int .i64 kf, .int .i64 kt, .int .i64 ks] 3, cellB b1 [.int .i64 kf, .int .i64 kt, .int .i64 ks, .int .i64 ke, .bool kp] 23]) (fun k => 3 - k) 0 ⟨Nat.zero_le _, fun j h => absurd h (Nat.not_lt_zero _)⟩ ?_
 rintro k ⟨hk, hall⟩
 refine s3 ?_
 refine JL_dec (fun h14 => ?_) (fun h14 => ?_)
 ·refine s9 ?_
  obtain ⟨z, hz, hzk⟩ : ∃ z, ([.int .i64 kf, .int .i64 kt, .int .i64 ks] : List Value)[0 + k * 1 + 0]? = some (.int .i64 z) ∧ ([kf, kt, ks] : List Int).getD k 0 = z := by
   rcases (show k = 0 ∨ k = 1 ∨ k = 2 by omega) with rfl | rfl | rfl
   ·exact ⟨kf, rfl, rfl⟩
   ·exact ⟨kt, rfl, rfl⟩
   ·exact ⟨ks, rfl, rfl⟩
  refine s2 ?_
  refine aV (vCell rfl rfl (by repeat constructor) hz) ?_
  refine s6 ?_
  refine aCB (fun w hw => rwithin _ _ _ w) ?_
  refine JL_dec (fun h18 => ?_) (fun h18 => ?_)
  ·refine s7 ?_
   refine kJ [(1, _), (11, _), (12, _), (13, _)] ?_
   refine s4 ?_
   have hn : ∀ j, j < k + 1 → 0 ≤ ([kf, kt, ks] : List Int).getD j 0 ∧ ([kf, kt, ks] : List Int).getD j 0 ≤ 16 := fun j hj => by
    rcases Nat.lt_or_ge j k with h | h
    ·exact hall j h
    ·obtain rfl : j = k := by omega
     rw [hzk]; exact h18
   exact xR (k + 1) ⟨by omega, hn⟩ (by omega) (hl := ⟨rfl, rfl, rfl, (congrArg some (by go_num)), trivial⟩)
  ·refine s5 ?_
   refine kJ [] ?_
   refine s10 ?_
   refine JR_one rfl (rr_tmp rfl) ?_
   intro w' hw
   exact ⟨by congr 2; exact cc_no (fun ⟨g1, g2, g3, g4, g5⟩ => by dsimp only at g1 g2 g3; rcases (show k = 0 ∨ k = 1 ∨ k = 2 by omega) with rfl | rfl | rfl <;> (simp at hzk; omega)), hw.bel⟩
 ·refine s10 ?_
  obtain rfl : k = 3 := by omega
  refine kJ [(1, _)] ?_
  refine s3 ?_
  refine aCB (fun w hw => rwithin _ _ _ w) ?_
  refine JL_dec (fun h23 => ?_) (fun h23 => ?_)
  ·refine s3 ?_
   refine JL_bool (fun h26 => ?_) (fun h26 => ?_)
   ·refine s5 ?_
    refine JL_dec (fun h31 => ?_) (fun h31 => ?_)
    ·refine s6 ?_
     refine JR_one rfl (rr_tmp rfl) ?_
     intro w' hw
     exact ⟨by congr 2; first | exact cc_yes ⟨hall 0 (by omega), hall 1 (by omega), hall 2 (by omega), by dsimp only; omega, fun hp => by dsimp only at hp ⊢; first | omega | (rw [h26] at hp; cases hp)⟩ | exact cc_no (fun ⟨g1, g2, g3, g4, g5⟩ => by dsimp only at g1 g2 g3 g4 g5; first | omega | (have := g5 h26; omega)), hw.bel⟩
    ·refine s6 ?_
     refine JR_one rfl (rr_tmp rfl) ?_
     intro w' hw
     exact ⟨by congr 2; first | exact cc_yes ⟨hall 0 (by omega), hall 1 (by omega), hall 2 (by omega), by dsimp only; omega, fun hp => by dsimp only at hp ⊢; first | omega | (rw [h26] at hp; cases hp)⟩ | exact cc_no (fun ⟨g1, g2, g3, g4, g5⟩ => by dsimp only at g1 g2 g3 g4 g5; first | omega | (have := g5 h26; omega)), hw.bel⟩
   ·refine s11 ?_
    refine JR_one rfl (rr_tmp rfl) ?_
    intro w' hw
    exact ⟨by congr 2; first | exact cc_yes ⟨hall 0 (by omega), hall 1 (by omega), hall 2 (by omega), by dsimp only; omega, fun hp => by dsimp only at hp ⊢; first | omega | (rw [h26] at hp; cases hp)⟩ | exact cc_no (fun ⟨g1, g2, g3, g4, g5⟩ => by dsimp only at g1 g2 g3 g4 g5; first | omega | (have := g5 h26; omega)), hw.bel⟩
  ·refine s14 ?_
   refine JR_one rfl (rr_tmp rfl) ?_
   intro w' hw
   exact ⟨by congr 2; first | fail | exact cc_no (fun ⟨g1, g2, g3, g4, g5⟩ => by dsimp only at g1 g2 g3 g4 g5; first | omega), hw.bel⟩
end Go.Proofs.YtmcpnoailbmkkaaGreatDoor
/- Layer 2: pairs, Overlap. -/
namespace Go.Proofs.YtmcpnoailbmkkaaGreatDoor
open Go Go.RowKit Go.Proofs
attribute [local irreducible] J JQ JL JA JD

section
variable {P : Program} {n : Nat} {B : Bs} {l : Sl} {H : List It} {o : Oper} {t : TypeId} {x : Operand}
theorem vHoldP {α : Type} {enc : α → List Value} {k m i b p j : Nat} {L : List α} {cs : List Value} [g : Agg P t true] [z : Siz P t m] (ho : o.op = .load t x) (hx : evl l x = some (.pointer (some ⟨b, p + j * k + i, none⟩))) (hm : ¬ B.m b) (hc : HoldL k enc B.w b p L) (hj : j < L.length) (hl : cs.length = m) (hi : i + m ≤ k) (hv : ((enc (L[j]'hj)).drop i).take m = cs) : RV P n B l H o (.agg cs.toArray) :=
 rv_oldagg ho hx g.h (by rw [hl]; exact z.h) hm (fun q v hq => by
  have hqm : q < m := by rw [← hl]; exact (List.getElem?_eq_some_iff.1 hq).1
  have h1 := hc j hj (i + q) (by omega)
  rw [show p + j * k + i + q = p + j * k + (i + q) by omega, h1]
  rw [← hv, List.getElem?_take, if_pos hqm, List.getElem?_drop] at hq
  exact hq)
theorem vOldC {b off : Nat} {cs vs : List Value} {ty : TypeId} [g : Agg P t true] [z : Siz P t cs.length] (ho : o.op = .load t x) (hx : evl l x = some (.pointer (some ⟨b, off, none⟩))) (hm : ¬ B.m b) (hc : (cellB b vs ty).holds B.w) (hv : (vs.drop off).take cs.length = cs) : RV P n B l H o (.agg cs.toArray) :=
 rv_oldagg ho hx g.h z.h hm (fun q v hq => cellB_get hc (by
  have hqm : q < cs.length := (List.getElem?_eq_some_iff.1 hq).1
  rw [← hv, List.getElem?_take, if_pos hqm, List.getElem?_drop] at hq
  exact hq))
end
/-- A predicate of stones, as a closure. -/
def PrT (f : FuncId) (caps : Array Value) (p : St → Bool) (l : List St) (w0 : World) : Prop := ∀ x ∈ l, ∀ W, Below w0.heap.size w0 W → Calls Tryz.prog f (#[] ++ #[Stv x] ++ caps) W (Back (.bool (p x)) W)
theorem PrT.up {f : FuncId} {caps : Array Value} {p : St → Bool} {l : List St} {w w1 : World} (h : PrT f caps p l w) (hb : Below w.heap.size w w1) : PrT f caps p l w1 := fun x hx W hW => h x hx W (hb.trans (hW.mono hb.size))
set_option maxRecDepth 100000 in
set_option maxHeartbeats 4000000 in
theorem IndexFuncT (f : FuncId) (caps : Array Value) (p : St → Bool) (l : List St) (v : Value) (w : World) [hf : Cf Tryz.prog f] (hcl : PrT f caps p l w) (hrow : Arr 4 eT w v l) : Calls Tryz.prog 130 #[v, .func (.func f) #[] caps] w (Back (.int .i64 (fidx p l)) w) := by
 obtain ⟨A, cap, rfl, -, ⟨hl, -⟩, hA⟩ := hrow
 refine J_enter (fun _ => False) (vs := [.slice A l.length cap, .func (.func f) #[] caps]) (k := 17) (l := [(0, .slice A l.length cap), (1, .func (.func f) #[] caps)]) Tryz.func130 rfl rfl Tryz.ntmps130 rfl rfl (Wd.start _) ?_
 refine s14 ?_
 refine xL (T := Nat) (fun k => k ≤ l.length ∧ ∀ j (hj : j < l.length), j < k → p (l[j]'hj) = false) (fun k => [(0, .slice A l.length cap), (1, .func (.func f) #[] caps), (7, .int .i64 (l.length : Nat)), (8, .int .i64 (k : Nat))]) (fun k => []) (fun k => l.length - k) 0 ⟨Nat.zero_le _, fun j _ h => absurd h (Nat.not_lt_zero _)⟩ ?_
 rintro k ⟨hk, hall⟩
 refine s3 ?_
 refine JL_dec (fun h9 => ?_) (fun h9 => ?_)
 ·refine s15 ?_
  have hltx : k < l.length := by omega
  obtain ⟨bx, qx, rfl, hh⟩ := hA (by intro e; subst e; simp at hltx)
  obtain ⟨⟨xt, xn, xx, xy⟩, hx⟩ : ∃ y, l[k]'hltx = y := ⟨_, rfl⟩
  have hmx : (⟨xt, xn, xx, xy⟩ : St) ∈ l := by rw [← hx]; exact List.getElem_mem _
  refine s5 ?_
  refine aV (vHoldA (cs := [.int .i64 xt, .int .i64 xn, .int .i64 xx, .int .i64 xy]) ET rfl rfl (fun h => h) hh hltx (by rw [hx]; rfl)) ?_
  refine aW (ow_callB (ec_val rfl rfl rfl Cf.h) rfl rfl (fun w hw => hcl (⟨xt, xn, xx, xy⟩ : St) hmx w hw.bel)) (fun _ _ => ?_)
  refine JL_bool (fun h16 => ?_) (fun h16 => ?_)
  ·refine s4 ?_
   refine kJ [(5, _)] ?_
   refine s11 ?_
   refine JR_one rfl (rr_tmp rfl) ?_
   intro w' hw
   exact ⟨by rw [fidx_at hltx (by rw [hx]; exact h16) (fun j hj => hall j (by omega) hj)], hw.bel⟩
  ·refine s6 ?_
   refine kJ [(0, _), (1, _), (7, _), (8, _)] ?_
   refine s4 ?_
   have hn : ∀ j (hj : j < l.length), j < k + 1 → p (l[j]'hj) = false := fun j hj hjk => by
    rcases Nat.lt_or_ge j k with h | h
    ·exact hall j hj h
    ·obtain rfl : j = k := by omega
     rw [hx]; exact h16
   exact xR (k + 1) ⟨by omega, hn⟩ (by omega) (hl := ⟨rfl, rfl, rfl, (congrArg some (by go_num)), trivial⟩)
 ·refine s10 ?_
  refine kJ [] ?_
  refine s5 ?_
  refine JR_one rfl (rr_tmp rfl) ?_
  intro w' hw
  exact ⟨by rw [fidx_none (fun j hj => hall j hj (by omega))], hw.bel⟩
set_option maxRecDepth 100000 in
set_option maxHeartbeats 4000000 in
theorem ov_any (a b : St) (w : World) : Calls Tryz.prog 132 #[Stv a, Stv b] w (Back (.bool (ovB a b)) w) := by
 obtain ⟨xt, xn, xx, xy⟩ := a
 obtain ⟨yt, yn, yx, yy⟩ := b
 refine J_enter (fun _ => False) (vs := [.agg #[.int .i64 xt, .int .i64 xn, .int .i64 xx, .int .i64 xy], .agg #[.int .i64 yt, .int .i64 yn, .int .i64 yx, .int .i64 yy]]) (k := 19) (l := [(0, .agg #[.int .i64 xt, .int .i64 xn, .int .i64 xx, .int .i64 xy]), (1, .agg #[.int .i64 yt, .int .i64 yn, .int .i64 yx, .int .i64 yy])]) Tryz.func132 rfl rfl Tryz.ntmps132 rfl rfl (Wd.start _) ?_
 refine s2 ?_
 refine aW (oX [_, _, _, _]) (fun b2 hb2 => ?_)
 refine aW (oX [_, _, _, _]) (fun b3 hb3 => ?_)
 refine s7 ?_
 refine aCB (fun w hw => CheckSpot_any xx xy w) ?_
 refine JL_dec (fun h7 => ?_) (fun h7 => ?_)
 ·refine s3 ?_
  refine aCB (fun w hw => CheckSpot_any yx yy w) ?_
  refine JL_dec (fun h11 => ?_) (fun h11 => ?_)
  ·refine s6 ?_
   refine aCB (fun w hw => contact_any xx xy yx yy h7 h11 w) ?_
   refine s1 ?_
   refine JL_dec (fun h19 => ?_) (fun h19 => ?_)
   ·refine s5 ?_
    refine JR_one rfl (rr_tmp rfl) ?_
    intro w' hw
    exact ⟨by congr 2; exact (decide_eq_true ⟨h7, h11, h19⟩).symm, hw.bel⟩
   ·refine s5 ?_
    refine JR_one rfl (rr_tmp rfl) ?_
    intro w' hw
    exact ⟨by congr 2; exact (decide_eq_false (fun h => h19 h.2.2)).symm, hw.bel⟩
  ·refine s13 ?_
   refine JR_one rfl (rr_tmp rfl) ?_
   intro w' hw
   exact ⟨by congr 2; exact (decide_eq_false (fun h => h11 h.2.1)).symm, hw.bel⟩
 ·refine s17 ?_
  refine JR_one rfl (rr_tmp rfl) ?_
  intro w' hw
  exact ⟨by congr 2; exact (decide_eq_false (fun h => h7 h.1)).symm, hw.bel⟩
instance : Cf Tryz.prog 132 := ⟨fun _ _ => by kernel_rfl⟩
instance : Cf Tryz.prog 175 := ⟨fun _ _ => by kernel_rfl⟩
set_option maxRecDepth 100000 in
set_option maxHeartbeats 4000000 in
theorem pair1_any (a b : St) (b3 b7 : Nat) (w : World) (h1 : (cellB b3 [.func (.func 132) #[] #[]] 238).holds w) (h2 : (cellB b7 (eT a) 43).holds w) : Calls Tryz.prog 175 (#[] ++ #[Stv b] ++ #[.pointer (some ⟨b3, 0, none⟩), .pointer (some ⟨b7, 0, none⟩)]) w (Back (.bool (ovB a b)) w) := by
 obtain ⟨xt, xn, xx, xy⟩ := a
 obtain ⟨yt, yn, yx, yy⟩ := b
 unfold eT at h2
 refine J_enter (fun _ => False) (vs := [.agg #[.int .i64 yt, .int .i64 yn, .int .i64 yx, .int .i64 yy], .pointer (some ⟨b3, 0, none⟩), .pointer (some ⟨b7, 0, none⟩)]) (k := 6) (l := [(0, .agg #[.int .i64 yt, .int .i64 yn, .int .i64 yx, .int .i64 yy]), (1, .pointer (some ⟨b3, 0, none⟩)), (2, .pointer (some ⟨b7, 0, none⟩))]) Tryz.func175 rfl rfl Tryz.ntmps175 rfl rfl (Wd.start _) ?_
 refine s2 ?_
 refine aW (oX [_, _, _, _]) (fun b3 hb3 => ?_)
 refine s5 ?_
 refine aV (vOld rfl rfl (fun h => h) (cellB_get h1 rfl)) ?_
 refine aV (vOldC (cs := [.int .i64 xt, .int .i64 xn, .int .i64 xx, .int .i64 xy]) rfl rfl (fun h => h) h2 rfl) ?_
 refine s1 ?_
 refine aW (ow_callB (ec_val rfl rfl rfl Cf.h) rfl rfl (fun w hw => ov_any (⟨xt, xn, xx, xy⟩ : St) (⟨yt, yn, yx, yy⟩ : St) w)) (fun _ _ => ?_)
 refine s4 ?_
 refine JR_one rfl (rr_tmp rfl) ?_
 intro w' hw
 exact ⟨rfl, hw.bel⟩
theorem pair_pos {l : List St} {k : Nat} (hk : k < l.length) (hall : pairF ovB l 0 = pairF ovB (l.drop k) k) (h : 0 ≤ fidx (ovB (l[k]'hk)) (l.drop (k + 1))) : pairF ovB l 0 = ((k : Int), (k : Int) + 1 + fidx (ovB (l[k]'hk)) (l.drop (k + 1))) := by
 rw [hall, pairF_step hk, if_pos h]
theorem pair_neg {l : List St} {k : Nat} (hk : k < l.length) (hall : pairF ovB l 0 = pairF ovB (l.drop k) k) (h : ¬ 0 ≤ fidx (ovB (l[k]'hk)) (l.drop (k + 1))) : pairF ovB l 0 = pairF ovB (l.drop (k + 1)) (k + 1) := by
 rw [hall, pairF_step hk, if_neg h]
theorem fidx_le {α : Type} (p : α → Bool) (l : List α) : -1 ≤ fidx p l ∧ fidx p l ≤ l.length := by unfold fidx; split <;> omega
set_option maxRecDepth 100000 in
set_option maxHeartbeats 4000000 in
theorem pair_any (l : List St) (v : Value) (w : World) (hrow : Arr 4 eT w v l) (hl9 : l.length ≤ 1000000) : Calls Tryz.prog 131 #[v, .func (.func 132) #[] #[]] w (Back (.tuple #[.int .i64 (pairF ovB l 0).1, .int .i64 (pairF ovB l 0).2]) w) := by
 have hrow0 := hrow
 obtain ⟨A, cap, rfl, -, ⟨hl, -⟩, hA⟩ := hrow
 refine J_enter (fun _ => False) (vs := [.slice A l.length cap, .func (.func 132) #[] #[]]) (k := 28) (l := [(0, .slice A l.length cap), (1, .func (.func 132) #[] #[])]) Tryz.func131 rfl rfl Tryz.ntmps131 rfl rfl (Wd.start _) ?_
 refine s2 ?_
 refine aW (oX [_]) (fun b3 hb3 => ?_)
 refine s13 ?_
 refine xL (T := Nat) (fun k => k ≤ l.length ∧ pairF ovB l 0 = pairF ovB (l.drop k) k) (fun k => [(0, .slice A l.length cap), (3, .pointer (some ⟨b3, 0, none⟩)), (9, .slice A l.length cap), (10, .int .i64 (l.length : Nat)), (11, .int .i64 (k : Nat))]) (fun k => [cellB b3 [.func (.func 132) #[] #[]] 238]) (fun k => l.length - k) 0 ⟨Nat.zero_le _, rfl⟩ ?_
 rintro k ⟨hk, hall⟩
 refine s3 ?_
 refine JL_dec (fun h12 => ?_) (fun h12 => ?_)
 ·refine s9 ?_
  have hltx : k < l.length := by omega
  obtain ⟨bx, qx, rfl, hh⟩ := hA (by intro e; subst e; simp at hltx)
  obtain ⟨⟨xt, xn, xx, xy⟩, hx⟩ : ∃ y, l[k]'hltx = y := ⟨_, rfl⟩
  have hmx : (⟨xt, xn, xx, xy⟩ : St) ∈ l := by rw [← hx]; exact List.getElem_mem _
  refine s3 ?_
  refine aV (vHoldA (cs := [.int .i64 xt, .int .i64 xn, .int .i64 xx, .int .i64 xy]) ET rfl rfl (fun h => h) hh hltx (by rw [hx]; rfl)) ?_
  refine aW oA (fun b7 hb7 => ?_)
  refine s5 ?_
  refine kJ [(0, _), (3, _), (6, _), (7, _), (9, _), (10, _), (11, _)] ?_
  refine s4 ?_
  refine aP (rp_sliceFrom (k := k + 1) rfl rfl rfl Und.h Siz.h (by go_num) (by omega)) ?_
  refine s1 ?_
  refine aCB (fun w hw => (IndexFuncT 175 _ (ovB (⟨xt, xn, xx, xy⟩ : St)) (l.drop (k + 1)) _ w (fun y hy W hW => pair1_any (⟨xt, xn, xx, xy⟩ : St) y b3 b7 W ((hw.up hW).ok (cellB b3 [.func (.func 132) #[] #[]] 238) (by repeat constructor)).1 ((hw.up hW).ok (cellB b7 (eT (⟨xt, xn, xx, xy⟩ : St)) 43) (by repeat constructor)).1) ((hrow0.up ET hw.bel).drop (by omega))).mono (fun _ _ h => h)) ?_
  have hfl := fidx_le (ovB (⟨xt, xn, xx, xy⟩ : St)) (l.drop (k + 1))
  rw [List.length_drop] at hfl
  refine s4 ?_
  refine kJ [(0, _), (3, _), (6, _), (8, _), (9, _), (10, _), (11, _)] ?_
  refine s3 ?_
  refine JL_dec (fun h23 => ?_) (fun h23 => ?_)
  ·refine s4 ?_
   refine kJ [(6, _), (8, _)] ?_
   refine s16 ?_
   refine JR_two rfl (rr_tmp rfl) (rr_tmp rfl) ?_
   intro w' hw
   exact ⟨by rw [pair_pos hltx hall (by rw [hx]; omega), hx], hw.bel⟩
  ·refine s6 ?_
   refine kJ [(0, _), (3, _), (9, _), (10, _), (11, _)] ?_
   refine s4 ?_
   have hn := pair_neg hltx hall (by rw [hx]; omega)
   exact xR (k + 1) ⟨by omega, hn⟩ (by omega) (hl := ⟨rfl, rfl, rfl, rfl, (congrArg some (by go_num)), trivial⟩)
 ·refine s10 ?_
  refine kJ [] ?_
  refine s6 ?_
  refine JR_two rfl (rr_tmp rfl) (rr_tmp rfl) ?_
  intro w' hw
  obtain rfl : k = l.length := by omega
  rw [List.drop_length] at hall
  exact ⟨by rw [hall]; rfl, hw.bel⟩
end Go.Proofs.YtmcpnoailbmkkaaGreatDoor
/- Layer 2: Overlap, Find, Check (document). -/
namespace Go.Proofs.YtmcpnoailbmkkaaGreatDoor
open Go Go.RowKit Go.Proofs
attribute [local irreducible] J JQ JL JA JD

set_option maxRecDepth 100000 in
set_option maxHeartbeats 4000000 in
theorem Overlap_any (l : List St) (v : Value) (w : World) (hrow : Arr 4 eT w v l) (hl9 : l.length ≤ 1000000) : Calls Tryz.prog 83 #[v] w (Back (.tuple #[.int .i64 (pairF ovB l 0).1, .int .i64 (pairF ovB l 0).2]) w) := by
 have hrow0 := hrow
 obtain ⟨A, cap, rfl, -, ⟨hl, -⟩, hA⟩ := hrow
 refine J_enter (fun _ => False) (vs := [.slice A l.length cap]) (k := 7) (l := [(0, .slice A l.length cap)]) Tryz.func83 rfl rfl Tryz.ntmps83 rfl rfl (Wd.start _) ?_
 refine s9 ?_
 refine aCB (fun w hw => pair_any l _ w (hrow0.up ET hw.bel) hl9) ?_
 refine s7 ?_
 refine JR_two rfl (rr_tmp rfl) (rr_tmp rfl) ?_
 intro w' hw
 exact ⟨rfl, hw.bel⟩
def findR (t n : Int) (l : List St) : Value := if fidx (isB t n) l < 0 then .tuple #[.int .i64 0, .int .i64 7] else .tuple #[.int .i64 (fidx (isB t n) l), .int .i64 0]
theorem isB_no {t n : Int} {s : St} (h : ¬ (s.t = t ∧ s.n = n)) : isB t n s = false := Bool.eq_false_iff.2 (fun h' => h (by unfold isB at h'; simpa using h'))
theorem isB_yes {t n : Int} {s : St} (h1 : s.t = t) (h2 : s.n = n) : isB t n s = true := by unfold isB; simp [h1, h2]
set_option maxRecDepth 100000 in
set_option maxHeartbeats 4000000 in
theorem refFind (tm nn : Int) (l : List St) (v : Value) (w : World) (hrow : Arr 4 eT w v l) : Calls Tryz.prog 8 #[v, .int .i64 tm, .int .i64 nn] w (Back (findR tm nn l) w) := by
 have hrow0 := hrow
 obtain ⟨A, cap, rfl, -, ⟨hl, -⟩, hA⟩ := hrow
 refine J_enter (fun _ => False) (vs := [.slice A l.length cap, .int .i64 tm, .int .i64 nn]) (k := 29) (l := [(0, .slice A l.length cap), (1, .int .i64 tm), (2, .int .i64 nn)]) Tryz.func8 rfl rfl Tryz.ntmps8 rfl rfl (Wd.start _) ?_
 refine s13 ?_
 refine xL (T := Nat) (fun k => k ≤ l.length ∧ ∀ j (hj : j < l.length), j < k → isB tm nn (l[j]'hj) = false) (fun k => [(0, .slice A l.length cap), (1, .int .i64 tm), (2, .int .i64 nn), (8, .int .i64 (k : Nat))]) (fun k => []) (fun k => l.length - k) 0 ⟨Nat.zero_le _, fun j _ h => absurd h (Nat.not_lt_zero _)⟩ ?_
 rintro k ⟨hk, hall⟩
 refine s7 ?_
 refine JL_dec (fun h12 => ?_) (fun h12 => ?_)
 ·refine s8 ?_
  have hltx : k < l.length := by omega
  obtain ⟨bx, qx, rfl, hh⟩ := hA (by intro e; subst e; simp at hltx)
  obtain ⟨⟨xt, xn, xx, xy⟩, hx⟩ : ∃ y, l[k]'hltx = y := ⟨_, rfl⟩
  have hmx : (⟨xt, xn, xx, xy⟩ : St) ∈ l := by rw [← hx]; exact List.getElem_mem _
  refine kJ [(0, _), (1, _), (2, _), (8, _)] ?_
  refine s5 ?_
  refine aV (vHold (v := .int .i64 xt) rfl rfl (fun h => h) hh hltx (by omega) (by rw [hx]; rfl)) ?_
  refine s2 ?_
  refine JL_dec (fun h21 => ?_) (fun h21 => ?_)
  ·refine s5 ?_
   refine aV (vHold (v := .int .i64 xn) rfl rfl (fun h => h) hh hltx (by omega) (by rw [hx]; rfl)) ?_
   refine s2 ?_
   refine JL_dec (fun h29 => ?_) (fun h29 => ?_)
   ·refine s5 ?_
    refine kJ [(8, _)] ?_
    refine s12 ?_
    refine JR_two rfl (rr_tmp rfl) (rr_tmp rfl) ?_
    intro w' hw
    have e : fidx (isB tm nn) l = (k : Nat) := fidx_at hltx (by rw [hx]; exact isB_yes h21 h29) (fun j hj => hall j (by omega) hj)
    exact ⟨by unfold findR; rw [e, if_neg (by omega)], hw.bel⟩
   ·refine s7 ?_
    refine kJ [(0, _), (1, _), (2, _), (8, _)] ?_
    refine s5 ?_
    have hn : ∀ j (hj : j < l.length), j < k + 1 → isB tm nn (l[j]'hj) = false := fun j hj hjk => by
     rcases Nat.lt_or_ge j k with h | h
     ·exact hall j hj h
     ·obtain rfl : j = k := by omega
      rw [hx]; exact isB_no (fun h => h29 h.2)
    exact xR (k + 1) ⟨by omega, hn⟩ (by omega) (hl := ⟨rfl, rfl, rfl, (congrArg some (by go_num)), trivial⟩)
  ·refine s15 ?_
   refine kJ [(0, _), (1, _), (2, _), (8, _)] ?_
   refine s5 ?_
   have hn : ∀ j (hj : j < l.length), j < k + 1 → isB tm nn (l[j]'hj) = false := fun j hj hjk => by
    rcases Nat.lt_or_ge j k with h | h
    ·exact hall j hj h
    ·obtain rfl : j = k := by omega
     rw [hx]; exact isB_no (fun h => h21 h.1)
   exact xR (k + 1) ⟨by omega, hn⟩ (by omega) (hl := ⟨rfl, rfl, rfl, (congrArg some (by go_num)), trivial⟩)
 ·refine s9 ?_
  refine kJ [] ?_
  refine s6 ?_
  refine JR_two rfl (rr_tmp rfl) (rr_tmp rfl) ?_
  intro w' hw
  have e : fidx (isB tm nn) l = -1 := fidx_none (fun j hj => hall j hj (by omega))
  exact ⟨by unfold findR; rw [e]; rfl, hw.bel⟩
end Go.Proofs.YtmcpnoailbmkkaaGreatDoor
/- Layer 2: Check (document). -/
namespace Go.Proofs.YtmcpnoailbmkkaaGreatDoor
open Go Go.RowKit Go.Proofs
attribute [local irreducible] J JQ JL JA JD

theorem good_n1 {l : List St} {k : Nat} {x : St} (hk : k < l.length) (hx : l[k]'hk = x) (h : goodF [] l = goodF (l.take k) (l.drop k)) (h1 : ¬ okSt x) : chkB l = false := by
 unfold chkB
 rw [h, goodF_step hk, hx, decide_eq_false h1]; simp
theorem good_e {l : List St} (h16 : l.length ≤ 16) (h : goodF [] l = goodF (l.take l.length) (l.drop l.length)) : chkB l = decide ((pairF ovB l 0).1 < 0) := by
 unfold chkB
 rw [h, List.drop_length, decide_eq_true h16]
 show (true && true && _) = _
 rfl
theorem chk_big {l : List St} (h : ¬ l.length ≤ 16) : chkB l = false := by unfold chkB; rw [decide_eq_false h]; rfl
end Go.Proofs.YtmcpnoailbmkkaaGreatDoor
/- Layer 2: names as keys; Check. -/
namespace Go.Proofs.YtmcpnoailbmkkaaGreatDoor
open Go Go.RowKit Go.Proofs
attribute [local irreducible] J JQ JL JA JD

/-- A stone's name, as a key. -/
def kN (p : Int × Int) : Value := .agg #[.int .i64 p.1, .int .i64 p.2]
def okN2 (p : Int × Int) : Prop := W64 p.1 ∧ W64 p.2
theorem laidOut : laidOutB Tryz.prog = true := by kernel_rfl
theorem row181 : (181 : TypeId) < Tryz.prog.types.size := of_decide_eq_true (by kernel_rfl)
theorem cells181 : Tryz.prog.cellsOf 181 = 2 := by kernel_rfl
theorem KNS : KeyL Tryz.prog 181 kN okN2 where
 law := Go.Maps.Keyed.of_law (deep_law_laid laidOut (m := 2) (by omega) row181 (by kernel_rfl) (by kernel_rfl))
 key := fun p hp => by
  obtain ⟨x, y⟩ := p
  have h1 := wf64 hp.1
  have h2 := wf64 hp.2
  have hk : Tryz.prog.keyType 181 = true := by kernel_rfl
  have hf : (kN (x, y)).formed Tryz.prog 181 = true := by simp [kN, Value.formed, Tryz.underlying181, cells181]
  have hc3 : Tryz.prog.cellsOf 3 = 1 := by kernel_rfl
  obtain ⟨n, hn⟩ : ∃ n, Tryz.prog.types.size = n + 1 := ⟨410, by kernel_rfl⟩
  unfold keyOf
  rw [Tryz.underlying181]
  simp only [hk, hf, hn, Bool.and_self, if_true]
  refine ⟨.string (keyBytes [.int .i64 x, .int .i64 y]), ?_⟩
  rw [Option.map_eq_some_iff]
  refine ⟨[.int .i64 x, .int .i64 y], ?_, rfl⟩
  dsimp only at h1 h2
  simp [kN, Program.keyLits, Tryz.underlying181, Tryz.underlying3, cells181, hc3, h1, h2, Value.cells]
 inj := fun x y h => by
  obtain ⟨x1, x2⟩ := x
  obtain ⟨y1, y2⟩ := y
  simpa [kN] using h
theorem row159 : (159 : TypeId) < Tryz.prog.types.size := of_decide_eq_true (by kernel_rfl)
theorem cells159 : Tryz.prog.cellsOf 159 = 2 := by kernel_rfl
theorem KNR : KeyL Tryz.prog 159 kN okN2 where
 law := Go.Maps.Keyed.of_law (deep_law_laid laidOut (m := 2) (by omega) row159 (by kernel_rfl) (by kernel_rfl))
 key := fun p hp => by
  obtain ⟨x, y⟩ := p
  have h1 := wf64 hp.1
  have h2 := wf64 hp.2
  have hk : Tryz.prog.keyType 159 = true := by kernel_rfl
  have hf : (kN (x, y)).formed Tryz.prog 159 = true := by simp [kN, Value.formed, Tryz.underlying159, cells159]
  have hc3 : Tryz.prog.cellsOf 3 = 1 := by kernel_rfl
  obtain ⟨n, hn⟩ : ∃ n, Tryz.prog.types.size = n + 1 := ⟨410, by kernel_rfl⟩
  unfold keyOf
  rw [Tryz.underlying159]
  simp only [hk, hf, hn, Bool.and_self, if_true]
  refine ⟨.string (keyBytes [.int .i64 x, .int .i64 y]), ?_⟩
  rw [Option.map_eq_some_iff]
  refine ⟨[.int .i64 x, .int .i64 y], ?_, rfl⟩
  dsimp only at h1 h2
  simp [kN, Program.keyLits, Tryz.underlying159, Tryz.underlying3, cells159, hc3, h1, h2, Value.cells]
 inj := fun x y h => by
  obtain ⟨x1, x2⟩ := x
  obtain ⟨y1, y2⟩ := y
  simpa [kN] using h
theorem good_sN {l : List St} {k : Nat} {x : St} (hk : k < l.length) (hx : l[k]'hk = x) (h : goodF [] l = goodF (l.take k) (l.drop k)) (h1 : okSt x) (h2 : (x.t, x.n) ∉ namesR (l.take k)) : goodF [] l = goodF (l.take (k + 1)) (l.drop (k + 1)) := by
 rw [h, goodF_step hk, hx, decide_eq_true h1, names_all, decide_eq_false h2]; rfl
theorem good_nN {l : List St} {k : Nat} {x : St} (hk : k < l.length) (hx : l[k]'hk = x) (h : goodF [] l = goodF (l.take k) (l.drop k)) (h2 : (x.t, x.n) ∈ namesR (l.take k)) : chkB l = false := by
 unfold chkB
 rw [h, goodF_step hk, hx, names_all, decide_eq_true h2]; simp
theorem names_s {l : List St} {k : Nat} {x : St} (hk : k < l.length) (hx : l[k]'hk = x) : namesR (l.take (k + 1)) = (x.t, x.n) :: namesR (l.take k) := by
 rw [List.take_succ_eq_append_getElem hk, namesR_snoc, hx]
@[reducible] instance (priority := high) beqNN : BEq (Int × Int) := instBEqOfDecidableEq
set_option maxRecDepth 100000 in
set_option maxHeartbeats 4000000 in
theorem Check_any (l : List St) (v : Value) (w : World) (hrow : Arr 4 eT w v l) : Calls Tryz.prog 29 #[v] w (Back (.bool (chkB l)) w) := by
 have hrow0 := hrow
 obtain ⟨A, cap, rfl, -, ⟨hl, -⟩, hA⟩ := hrow
 refine J_enter (fun _ => False) (vs := [.slice A l.length cap]) (k := 60) (l := [(0, .slice A l.length cap)]) Tryz.func29 rfl rfl Tryz.ntmps29 rfl rfl (Wd.start _) ?_
 refine s11 ?_
 refine JL_dec (fun h11 => ?_) (fun h11 => ?_)
 ·refine s4 ?_
  refine kJ [] ?_
  refine s6 ?_
  refine JR_one rfl (rr_tmp rfl) ?_
  intro w' hw
  exact ⟨by rw [chk_big (by omega)], hw.bel⟩
 ·refine s6 ?_
  refine kJ [(0, _)] ?_
  refine s1 ?_
  refine aW (ow_makeSet (kt := 181) (kv := kN) (ok := okN2) rfl rfl rfl (fun _ => by kernel_rfl)) (fun b12 hb12 => ?_)
  refine s12 ?_
  refine xL (T := Nat) (fun k => k ≤ l.length ∧ goodF [] l = goodF (l.take k) (l.drop k)) (fun k => [(0, .slice A l.length cap), (3, .map (some b12)), (13, .slice A l.length cap), (14, .int .i64 (l.length : Nat)), (15, .int .i64 (k : Nat))]) (fun k => [setB Tryz.prog 181 kN okN2 b12 (namesR (l.take k))]) (fun k => l.length - k) 0 ⟨Nat.zero_le _, rfl⟩ ?_ (hH := by (try dsimp only); rw [show namesR (l.take 0) = [] from rfl]; repeat constructor)
  rintro k ⟨hk, hall⟩
  refine s3 ?_
  refine JL_dec (fun h16 => ?_) (fun h16 => ?_)
  ·refine s9 ?_
   have hltx : k < l.length := by omega
   obtain ⟨bx, qx, rfl, hh⟩ := hA (by intro e; subst e; simp at hltx)
   obtain ⟨⟨xt, xn, xx, xy⟩, hx⟩ : ∃ y, l[k]'hltx = y := ⟨_, rfl⟩
   have hmx : (⟨xt, xn, xx, xy⟩ : St) ∈ l := by rw [← hx]; exact List.getElem_mem _
   refine s2 ?_
   refine aV (vHoldA (cs := [.int .i64 xt, .int .i64 xn, .int .i64 xx, .int .i64 xy]) ET rfl rfl (fun h => h) hh hltx (by rw [hx]; rfl)) ?_
   refine aW oA (fun b5 hb5 => ?_)
   refine s9 ?_
   refine aP (rp_buildC (fun us => [us.getD 0 undef, us.getD 1 undef]) rfl rfl (fun w => by kernel_rfl)) ?_
   refine aW oA (fun b6 hb6 => ?_)
   refine s5 ?_
   refine kJ [(0, _), (3, _), (5, _), (6, _), (13, _), (14, _), (15, _)] ?_
   refine s3 ?_
   refine aCB (fun w hw => swithin _ _ _ w) ?_
   refine JL_dec (fun h26 => ?_) (fun h26 => ?_)
   ·refine s4 ?_
    refine aCB (fun w hw => swithin _ _ _ w) ?_
    refine JL_dec (fun h31 => ?_) (fun h31 => ?_)
    ·refine s5 ?_
     refine aCB (fun w hw => CheckSpot_any xx xy w) ?_
     refine JL_dec (fun h37 => ?_) (fun h37 => ?_)
     ·refine s5 ?_
      refine aCB (fun w hw => zone_any xx xy h37 w) ?_
      refine s1 ?_
      refine JL_dec (fun h44 => ?_) (fun h44 => ?_)
      ·refine s10 ?_
       refine kJ [] ?_
       refine s11 ?_
       refine JR_one rfl (rr_tmp rfl) ?_
       intro w' hw
       exact ⟨by rw [good_n1 hltx hx hall (fun h => (zone_away _ _).1 h44 h.2.2)], hw.bel⟩
      ·refine s4 ?_
       refine aV (rv_lookS KNS LBool (xt, xn) Und.h rfl rfl rfl (by repeat constructor) rfl ⟨by unfold W64; dsimp only; omega, by unfold W64; dsimp only; omega⟩) ?_
       refine JL_dec (fun h49 => ?_) (fun h49 => ?_)
       ·refine s5 ?_
        refine kJ [] ?_
        refine s11 ?_
        refine JR_one rfl (rr_tmp rfl) ?_
        intro w' hw
        exact ⟨by rw [good_nN hltx hx hall h49], hw.bel⟩
       ·refine s6 ?_
        refine kJ [(0, _), (3, _), (6, _), (13, _), (14, _), (15, _)] ?_
        refine s3 ?_
        refine aW0 (ow_putS KNS LBool (xt, xn) Und.h rfl rfl rfl rfl rfl rfl rfl (by repeat constructor) ⟨by unfold W64; dsimp only; omega, by unfold W64; dsimp only; omega⟩ (by rw [namesR_len, List.length_take]; omega)) ?_
        refine s7 ?_
        have hn := good_sN hltx hx hall ⟨⟨h26, h31⟩, h37, (Decidable.not_not.1 (fun h => h44 ((zone_away _ _).2 h)))⟩ h49
        have hs := names_s hltx hx
        dsimp only at hs
        exact xR (k + 1) ⟨by omega, hn⟩ (by omega) (hl := ⟨rfl, rfl, rfl, rfl, (congrArg some (by go_num)), trivial⟩) (hH := by (try dsimp only); rw [hs]; repeat constructor)
     ·refine s17 ?_
      refine kJ [] ?_
      refine s11 ?_
      refine JR_one rfl (rr_tmp rfl) ?_
      intro w' hw
      exact ⟨by rw [good_n1 hltx hx hall (fun h => h37 h.2.1)], hw.bel⟩
    ·refine s23 ?_
     refine kJ [] ?_
     refine s11 ?_
     refine JR_one rfl (rr_tmp rfl) ?_
     intro w' hw
     exact ⟨by rw [good_n1 hltx hx hall (fun h => h31 h.1.2)], hw.bel⟩
   ·refine s28 ?_
    refine kJ [] ?_
    refine s11 ?_
    refine JR_one rfl (rr_tmp rfl) ?_
    intro w' hw
    exact ⟨by rw [good_n1 hltx hx hall (fun h => h26 h.1.1)], hw.bel⟩
  ·refine s10 ?_
   refine kJ [(0, _)] ?_
   refine s2 ?_
   refine aCB (fun w hw => Overlap_any l _ w (hrow0.up ET hw.bel) (by omega)) ?_
   refine s8 ?_
   refine kJ [(7, _)] ?_
   refine s7 ?_
   refine JR_one rfl (rr_tmp rfl) ?_
   intro w' hw
   obtain rfl : k = l.length := by omega
   exact ⟨by rw [good_e (by omega) hall], hw.bel⟩
end Go.Proofs.YtmcpnoailbmkkaaGreatDoor
/- Layer 7: stones and names compared; tables. -/
namespace Go.Proofs.YtmcpnoailbmkkaaGreatDoor
open Go Go.RowKit Go.Proofs
attribute [local irreducible] J JQ JL JA JD

theorem foS : Tryz.prog.underlying 43 = some (.struct (Tryz.prog.fieldsOf 43)) := by kernel_rfl
theorem foP : Tryz.prog.underlying 41 = some (.struct (Tryz.prog.fieldsOf 41)) := by kernel_rfl
theorem fnS : (Tryz.prog.fieldsOf 43).toList.map (fun f => (f.name != "_", f.type, f.offset)) = [(true, 3, 0), (true, 3, 1), (true, 41, 2)] := by kernel_rfl
theorem fnP : (Tryz.prog.fieldsOf 41).toList.map (fun f => (f.name != "_", f.type, f.offset)) = [(true, 39, 0), (true, 39, 1)] := by kernel_rfl
/-- Fields' equality, by name, type and place. -/
def eqF (d : Nat) (xs ys : Array Value) : List (Bool × TypeId × Nat) → Sem Bool
 | [] => pure true
 | (n, t, o) :: fs =>
  if n = true then do
   let a ← part t xs o
   let b ← part t ys o
   let r ← Op.equalIn d t a b
   if (!r) = true then pure false else eqF d xs ys fs
  else eqF d xs ys fs
theorem eqF_of (d : Nat) (xs ys : Array Value) (l : List Field) : Op.eqFields d xs ys l = eqF d xs ys (l.map (fun f => (f.name != "_", f.type, f.offset))) := by
 induction l with
 | nil => rfl
 | cons f l ih => simp only [Op.eqFields, List.map_cons, eqF, bne_iff_ne, ih]
theorem ein3 (d : Nat) (a b : Int) (w : World) : (Op.equalIn (d + 1) 3 (.int .i64 a) (.int .i64 b)).run Tryz.prog w = .ok (a == b) w := run_equalIn_int w d 3 .i64 .i64 a b Tryz.underlying3
theorem einF (d : Nat) (a b : Int) (w : World) : (Op.equalIn (d + 1) 39 (.int .i64 a) (.int .i64 b)).run Tryz.prog w = .ok (a == b) w := run_equalIn_int w d 39 .i64 .i64 a b (by kernel_rfl)
theorem pa3 (x y z u : Value) (w : World) : (part 3 #[x, y, z, u] 0).run Tryz.prog w = .ok x w ∧ (part 3 #[x, y, z, u] 1).run Tryz.prog w = .ok y w ∧ (part 41 #[x, y, z, u] 2).run Tryz.prog w = .ok (.agg #[z, u]) w := ⟨by kernel_rfl, by kernel_rfl, by kernel_rfl⟩
theorem paF (x y : Value) (w : World) : (part 39 #[x, y] 0).run Tryz.prog w = .ok x w ∧ (part 39 #[x, y] 1).run Tryz.prog w = .ok y w := ⟨by kernel_rfl, by kernel_rfl⟩
theorem einP (d : Nat) (a b a' b' : Int) (w : World) : (Op.equalIn (d + 2) 41 (.agg #[.int .i64 a, .int .i64 b]) (.agg #[.int .i64 a', .int .i64 b'])).run Tryz.prog w = .ok (a == a' && b == b') w := by
 rw [run_equalIn_struct w (d + 1) 41 _ _ foP (by kernel_rfl), eqF_of, fnP]
 cases h1 : a == a' <;> cases h2 : b == b' <;>
  simp [eqF, Sem.run_bind, (paF _ _ _).1, (paF _ _ _).2, einF, h1, h2, Result.andThen_ok, Sem.run_pure]
theorem einS (d : Nat) (a b : St) (w : World) : (Op.equalIn (d + 3) 43 (Stv a) (Stv b)).run Tryz.prog w = .ok (eqS a b) w := by
 obtain ⟨s1, s2, s3, s4⟩ := a
 obtain ⟨t1, t2, t3, t4⟩ := b
 unfold eqS Stv
 rw [run_equalIn_struct w (d + 2) 43 _ _ foS (by kernel_rfl), eqF_of, fnS]
 cases h1 : s1 == t1 <;> cases h2 : s2 == t2 <;> cases h3 : (s3 == t3 && s4 == t4) <;>
  simp [eqF, Sem.run_bind, (pa3 _ _ _ _ _).1, (pa3 _ _ _ _ _).2.1, (pa3 _ _ _ _ _).2.2, ein3, einP, h1, h2, h3, Result.andThen_ok, Sem.run_pure]
theorem neqS (a b : St) (w : World) : (binOp .neq 43 (Stv a) (Stv b)).run Tryz.prog w = .ok (.bool (!eqS a b)) w := by
 have h := einS 9997 a b w
 unfold Stv at h ⊢
 rw [run_neq_struct, h]
 rfl
theorem foN : Tryz.prog.underlying 159 = some (.struct (Tryz.prog.fieldsOf 159)) := by kernel_rfl
theorem fnN : (Tryz.prog.fieldsOf 159).toList.map (fun f => (f.name != "_", f.type, f.offset)) = [(true, 3, 0), (true, 3, 1)] := by kernel_rfl
theorem pa2 (x y : Value) (w : World) : (part 3 #[x, y] 0).run Tryz.prog w = .ok x w ∧ (part 3 #[x, y] 1).run Tryz.prog w = .ok y w := ⟨by kernel_rfl, by kernel_rfl⟩
theorem neqN (a b a' b' : Int) (w : World) : (binOp .neq 159 (Sp a b) (Sp a' b')).run Tryz.prog w = .ok (.bool (!eqK a b a' b')) w := by
 unfold Sp eqK
 rw [run_neq_struct]
 have h : (Op.equalIn 10000 159 (.agg #[.int .i64 a, .int .i64 b]) (.agg #[.int .i64 a', .int .i64 b'])).run Tryz.prog w = .ok (a == a' && b == b') w := by
  rw [run_equalIn_struct w 9999 159 _ _ foN (by kernel_rfl), eqF_of, fnN]
  cases h1 : a == a' <;> cases h2 : b == b' <;>
   simp [eqF, Sem.run_bind, (pa2 _ _ _).1, (pa2 _ _ _).2, ein3, h1, h2, Result.andThen_ok, Sem.run_pure]
 rw [h]
 rfl
section
variable {n : Nat} {l : Sl} {o : Oper} {x y : Operand} {ty : TypeId}
theorem pNeqT (a b : St) (ho : o.op = .binOp .neq 43 x y ty) (hx : evl l x = some (Stv a)) (hy : evl l y = some (Stv b)) : RP Tryz.prog n l o (.bool (!eqS a b)) := rp2 hx hy (fun ρ h1 h2 w => by
 unfold execOp
 have h := neqS a b w
 have hg : Tryz.prog.eqGuardType Tryz.prog.depth 43 = false := by kernel_rfl
 simp only [ho, h1, h2]
 simp [eqGuard, Sem.run_bind, hg, h])
theorem pNeqN (a b a' b' : Int) (ho : o.op = .binOp .neq 159 x y ty) (hx : evl l x = some (Sp a b)) (hy : evl l y = some (Sp a' b')) : RP Tryz.prog n l o (.bool (!eqK a b a' b')) := rp2 hx hy (fun ρ h1 h2 w => by
 unfold execOp
 have h := neqN a b a' b' w
 have hg : Tryz.prog.eqGuardType Tryz.prog.depth 159 = false := by kernel_rfl
 simp only [ho, h1, h2]
 simp [eqGuard, Sem.run_bind, hg, h])
end
instance : DecidableEq St := fun a b => if h : eqS a b = true then isTrue ((eqS_iff a b).1 h) else isFalse (fun e => h ((eqS_iff a b).2 e))
/-- Stones as elements of a map. -/
def dT (s : St) : DataW Unit := .agg [.lit (.int .i64 s.t), .lit (.int .i64 s.n), .lit (.int .i64 s.x), .lit (.int .i64 s.y)]
theorem LSt : ElL Tryz.prog 43 (fun s : St => Stv s) dT ⟨0, 0, 0, 0⟩ (fun _ => True) where
 zero := Zer.h
 okz := trivial
 rd := fun _ _ => rfl
 inv := fun _ x _ h => rdE_agg (l := eT x) rfl plain_agg h
def tblF (l : List St) (p : Int × Int) : Option St := lookT l p.1 p.2
theorem tbl_s {l : List St} {k : Nat} {x : St} (hk : k < l.length) (hx : l[k]'hk = x) : tblF (l.take (k + 1)) = upd (tblF (l.take k)) (x.t, x.n) x := by
 funext p
 obtain ⟨a, b⟩ := p
 unfold tblF upd
 rw [List.take_succ_eq_append_getElem hk, hx, lookT_snoc]
 dsimp only
 by_cases e : eqK x.t x.n a b = true
 ·rw [if_pos e]
  obtain ⟨rfl, rfl⟩ := (eqK_iff _ _ _ _).1 e
  rw [if_pos rfl]
 ·rw [if_neg e, if_neg (fun h => e ((eqK_iff _ _ _ _).2 (by injection h with h1 h2; exact ⟨h1.symm, h2.symm⟩)))]
set_option maxRecDepth 100000 in
set_option maxHeartbeats 4000000 in
theorem of_any (s : St) (w : World) : Calls Tryz.prog 72 #[Stv s] w (Back (Sp s.t s.n) w) := by
 obtain ⟨xt, xn, xx, xy⟩ := s
 refine J_enter (fun _ => False) (vs := [.agg #[.int .i64 xt, .int .i64 xn, .int .i64 xx, .int .i64 xy]]) (k := 7) (l := [(0, .agg #[.int .i64 xt, .int .i64 xn, .int .i64 xx, .int .i64 xy])]) Tryz.func72 rfl rfl Tryz.ntmps72 rfl rfl (Wd.start _) ?_
 refine s2 ?_
 refine aW (oX [_, _, _, _]) (fun b1 hb1 => ?_)
 refine aW oA (fun b2 hb2 => ?_)
 refine s8 ?_
 refine aP (rp_buildC (fun us => [us.getD 0 undef, us.getD 1 undef]) rfl rfl (fun w => by kernel_rfl)) ?_
 refine s4 ?_
 refine JR_one rfl (rr_agg (cs := [_, _]) rfl Agg.h (Siz.h (k := 2)) (by repeat constructor) (by rfl)) ?_
 intro w' hw
 exact ⟨rfl, hw.bel⟩
set_option maxRecDepth 100000 in
set_option maxHeartbeats 4000000 in
theorem table_any (l : List St) (v : Value) (w : World) (hrow : Arr 4 eT w v l) (hok : ∀ s ∈ l, W64 s.t ∧ W64 s.n) (hl9 : l.length ≤ 1000) : Calls Tryz.prog 71 #[v] w (Ret w (fun _ : Nat => True) (fun b => .map (some b)) (fun b => [mapK Tryz.prog 159 43 kN okN2 dT b l.length (tblF l)])) := by
 have hrow0 := hrow
 obtain ⟨A, cap, rfl, -, ⟨hl, -⟩, hA⟩ := hrow
 refine J_enter (fun _ => False) (vs := [.slice A l.length cap]) (k := 18) (l := [(0, .slice A l.length cap)]) Tryz.func71 rfl rfl Tryz.ntmps71 rfl rfl (Wd.start _) ?_
 refine s7 ?_
 refine aW (ow_makeK (kt := 159) (e := 43) (kv := kN) (ok := okN2) (ed := dT) rfl rfl rfl (fun _ => by kernel_rfl)) (fun b6 hb6 => ?_)
 refine s12 ?_
 refine xL (T := Nat) (fun k => k ≤ l.length) (fun k => [(3, .map (some b6)), (7, .slice A l.length cap), (8, .int .i64 (l.length : Nat)), (9, .int .i64 (k : Nat))]) (fun k => [mapK Tryz.prog 159 43 kN okN2 dT b6 k (tblF (l.take k))]) (fun k => l.length - k) 0 (Nat.zero_le _) ?_ (hH := by (try dsimp only); rw [show tblF (l.take 0) = (fun _ => none) from rfl]; repeat constructor)
 rintro k hk
 refine s3 ?_
 refine JL_dec (fun h10 => ?_) (fun h10 => ?_)
 ·refine s9 ?_
  have hltx : k < l.length := by omega
  obtain ⟨bx, qx, rfl, hh⟩ := hA (by intro e; subst e; simp at hltx)
  obtain ⟨⟨xt, xn, xx, xy⟩, hx⟩ : ∃ y, l[k]'hltx = y := ⟨_, rfl⟩
  have hmx : (⟨xt, xn, xx, xy⟩ : St) ∈ l := by rw [← hx]; exact List.getElem_mem _
  refine s2 ?_
  refine aV (vHoldA (cs := [.int .i64 xt, .int .i64 xn, .int .i64 xx, .int .i64 xy]) ET rfl rfl (fun h => h) hh hltx (by rw [hx]; rfl)) ?_
  refine aW oA (fun b5 hb5 => ?_)
  refine s3 ?_
  refine xD [0, 1, 3, 2, 4] [1, 3] ?_
  refine s3 ?_
  refine dCB rfl (fun w hw => of_any (⟨xt, xn, xx, xy⟩ : St) w) ?_
  refine dW0 rfl (ow_putK KNR LSt (xt, xn) (⟨xt, xn, xx, xy⟩ : St) Und.h rfl rfl rfl rfl rfl rfl rfl (by repeat constructor) (hok _ hmx) trivial (by omega) (Nat.le_refl _)) ?_
  refine s3 ?_
  refine kJ [(3, _), (7, _), (8, _), (9, _)] ?_
  refine s4 ?_
  have hs := tbl_s hltx hx
  dsimp only at hs
  exact xR (k + 1) (by omega) (by omega) (hl := ⟨rfl, rfl, rfl, (congrArg some (by go_num)), trivial⟩) (hH := by (try dsimp only); rw [hs]; repeat constructor)
 ·refine s10 ?_
  obtain rfl : k = l.length := by omega
  rw [List.take_length]
  refine kJ [(3, _)] ?_
  refine s6 ?_
  refine JR_one rfl (rr_tmp rfl) ?_
  intro w' hw
  exact ⟨b6, trivial, rfl, hw.pick (by repeat constructor)⟩
set_option maxRecDepth 100000 in
set_option maxHeartbeats 4000000 in
theorem EqualT (l m : List St) (v u : Value) (w : World) (hrow : Arr 4 eT w v l) (hrow2 : Arr 4 eT w u m) : Calls Tryz.prog 73 #[v, u] w (Back (.bool (decide (l = m))) w) := by
 obtain ⟨A, cap, rfl, -, ⟨hl, -⟩, hA⟩ := hrow
 obtain ⟨A2, cap2, rfl, -, ⟨hl2, -⟩, hA2⟩ := hrow2
 refine J_enter (fun _ => False) (vs := [.slice A l.length cap, .slice A2 m.length cap2]) (k := 24) (l := [(0, .slice A l.length cap), (1, .slice A2 m.length cap2)]) Tryz.func73 rfl rfl Tryz.ntmps73 rfl rfl (Wd.start _) ?_
 refine s13 ?_
 refine JL_dec (fun h10 => ?_) (fun h10 => ?_)
 ·refine s4 ?_
  refine kJ [] ?_
  refine s6 ?_
  refine JR_one rfl (rr_tmp rfl) ?_
  intro w' hw
  exact ⟨by rw [decide_eq_false (fun h => by rw [h] at h10; exact h10 rfl)], hw.bel⟩
 ·refine s7 ?_
  refine kJ [(0, _), (1, _)] ?_
  refine s7 ?_
  refine xL (T := Nat) (fun k => k ≤ l.length ∧ ∀ j (hj : j < l.length) (hj2 : j < m.length), j < k → l[j]'hj = m[j]'hj2) (fun k => [(0, .slice A l.length cap), (1, .slice A2 m.length cap2), (12, .int .i64 (l.length : Nat)), (13, .int .i64 (k : Nat))]) (fun k => []) (fun k => l.length - k) 0 ⟨Nat.zero_le _, fun j _ _ h => absurd h (Nat.not_lt_zero _)⟩ ?_
  rintro k ⟨hk, hall⟩
  refine s3 ?_
  refine JL_dec (fun h14 => ?_) (fun h14 => ?_)
  ·refine s9 ?_
   have hltx : k < l.length := by omega
   obtain ⟨bx, qx, rfl, hh⟩ := hA (by intro e; subst e; simp at hltx)
   obtain ⟨⟨xt, xn, xx, xy⟩, hx⟩ : ∃ y, l[k]'hltx = y := ⟨_, rfl⟩
   have hmx : (⟨xt, xn, xx, xy⟩ : St) ∈ l := by rw [← hx]; exact List.getElem_mem _
   have hlty : k < m.length := by omega
   obtain ⟨bky, qy, rfl, hh2⟩ := hA2 (by intro e; subst e; simp at hlty)
   obtain ⟨⟨yt, yn, yx, yy⟩, hy⟩ : ∃ y, m[k]'hlty = y := ⟨_, rfl⟩
   have hmy : (⟨yt, yn, yx, yy⟩ : St) ∈ m := by rw [← hy]; exact List.getElem_mem _
   refine s6 ?_
   refine xD [0, 1, 2, 3, 4, 5, 6, 7, 8] [3, 7] ?_
   refine s3 ?_
   refine dL rfl (vHoldA (cs := [.int .i64 xt, .int .i64 xn, .int .i64 xx, .int .i64 xy]) ET rfl rfl (fun h => h) hh hltx (by rw [hx]; rfl)) ?_
   refine s3 ?_
   refine dL rfl (vHoldA (cs := [.int .i64 yt, .int .i64 yn, .int .i64 yx, .int .i64 yy]) ET rfl rfl (fun h => h) hh2 hlty (by rw [hy]; rfl)) ?_
   refine dP rfl (pNeqT (⟨xt, xn, xx, xy⟩ : St) (⟨yt, yn, yx, yy⟩ : St) rfl rfl rfl) ?_
   refine dBool (fun h24 => ?_) (fun h24 => ?_)
   ·refine dO [] ?_
    refine s4 ?_
    refine kJ [] ?_
    refine s10 ?_
    refine JR_one rfl (rr_tmp rfl) ?_
    intro w' hw
    exact ⟨by rw [decide_eq_false (fun h => by subst h; rw [hx] at hy; cases hy; rw [(eqS_iff _ _).2 rfl] at h24; cases h24)], hw.bel⟩
   ·refine dO [] ?_
    refine s6 ?_
    refine kJ [(0, _), (1, _), (12, _), (13, _)] ?_
    refine s4 ?_
    have hn : ∀ j (hj : j < l.length) (hj2 : j < m.length), j < k + 1 → l[j]'hj = m[j]'hj2 := fun j hj hj2 hjk => by
     rcases Nat.lt_or_ge j k with h | h
     ·exact hall j hj hj2 h
     ·obtain rfl : j = k := by omega
      rw [hx, hy]; exact (eqS_iff _ _).1 (by cases h0 : eqS (⟨xt, xn, xx, xy⟩ : St) (⟨yt, yn, yx, yy⟩ : St) with | true => rfl | false => rw [h0] at h24; cases h24)
    exact xR (k + 1) ⟨by omega, hn⟩ (by omega) (hl := ⟨rfl, rfl, rfl, (congrArg some (by go_num)), trivial⟩)
  ·refine s10 ?_
   refine kJ [] ?_
   refine s5 ?_
   refine JR_one rfl (rr_tmp rfl) ?_
   intro w' hw
   obtain rfl : k = l.length := by omega
   exact ⟨by rw [decide_eq_true (List.ext_getElem (by omega) (fun j h1 h2 => hall j h1 h2 h1))], hw.bel⟩
end Go.Proofs.YtmcpnoailbmkkaaGreatDoor
