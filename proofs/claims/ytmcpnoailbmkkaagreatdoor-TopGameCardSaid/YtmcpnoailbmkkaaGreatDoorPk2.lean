/- Layers of the proofs, joined: G5 G6 G7 G8 G9 G10 G11 G12 G13 G14 G15 G16 G17 G18 G19 G20 G21 G22 G23 Gt Gu. -/
import Derived.Test.YtmcpnoailbmkkaaGreatDoorPk1
import Derived.WideKeyEntry
import Derived.Maps.RangeWalk
import Derived.RangeFuncIn
import Derived.RangeFuncRecord
import Derived.RangeFuncLeaves
import Derived.RangeFuncSeq
import Derived.Recover
import Derived.Scope
import Derived.Lib.UnsafeStr
import Derived.Lib.AppendStr
import Derived.Lib.MakeNoZero
import Derived.Laws.IdiomCopy
import Derived.Lib.SliceRun
import Derived.ProofKit
import Derived.OpenShut
import Derived.Deep.Slices
import Derived.Deep.Strs
import Derived.ChangeSame
import Derived.ChangeMaps5
import Derived.Test.YtmcpnoailbmkkaaGreatDoorProg
/- The walk by live slots: drawn regions by a printed order; short rules; runs of steps; panics. Over any program. -/
namespace Go.Proofs.YtmcpnoailbmkkaaGreatDoor
open Go Go.RowKit Go.Proofs Go.Shelf

section
variable {P : Program} {n : Nat} {B : Bs} {Q Q' : Exit → Act → World → Prop} {l l' : Sl} {H H' : List It} {ops : Array Oper} {rest : List Oper} {o : Oper} {c x y : Code} {ld lx ord : List Nat} {H0 Hx : List It} {fuel : Nat} {listed : Array Bool}
/-! ### Drawn regions -/
/-- ord: what is taken next (no part of what is said). -/
def JD (_ord : List Nat) (P : Program) (n : Nat) (B : Bs) (ops : Array Oper) (Q : Exit → Act → World → Prop) (ld : List Nat) (H0 : List It) (lx : List Nat) (Hx : List It) (fuel : Nat) (listed : Array Bool) (l : Sl) (H : List It) : Prop := JA P n B ops Q ld H0 lx Hx fuel listed l H
def okT (ops : Array Oper) (listed : Array Bool) (i : Nat) (L : List Nat) : Bool := Region.noSelect ops && (Region.free .any ops listed i && ((Region.ready .any ops listed).contains i && !L.contains i))
def okL (ops : Array Oper) (listed : Array Bool) (i : Nat) (L L' : List Nat) : Bool := Region.noSelect ops && (Region.free .any ops listed i && ((Region.ready .any ops listed).contains i && (L.contains i && !L'.contains i)))
theorem okT_out {i : Nat} {L : List Nat} (h : okT ops listed i L = true) : Region.noSelect ops = true ∧ Region.free .any ops listed i = true ∧ (Region.ready .any ops listed).contains i = true ∧ L.contains i = false := by
 unfold okT at h
 rw [Bool.and_eq_true, Bool.and_eq_true, Bool.and_eq_true, Bool.not_eq_true'] at h; exact h
theorem okL_out {i : Nat} {L L' : List Nat} (h : okL ops listed i L L' = true) : Region.noSelect ops = true ∧ Region.free .any ops listed i = true ∧ (Region.ready .any ops listed).contains i = true ∧ L.contains i = true ∧ L'.contains i = false := by
 unfold okL at h
 rw [Bool.and_eq_true, Bool.and_eq_true, Bool.and_eq_true, Bool.and_eq_true, Bool.not_eq_true'] at h; exact h
theorem xD {id : Nat} {ls : List Oper} (ord ld : List Nat) (h : JD ord P n B ls.toArray Q ld H [] [] ls.length (Array.replicate ls.length false) l H) (hm : P.follows .mixedOrders = true := by kernel_rfl) (hd : B.r = none ∨ ndL ls = true := by first | exact .inl rfl | exact .inr rfl) : J P n B (.region id ls.toArray true) Q l H := J_draw ld hm h (hd := hd)
theorem xDx {id : Nat} {ls : List Oper} (ord ld lx : List Nat) (Hx : List It) (h : JD ord P n B ls.toArray Q ld H lx Hx ls.length (Array.replicate ls.length false) l H) (hk : Pk Hx H := by repeat constructor) (hm : P.follows .mixedOrders = true := by kernel_rfl) (hd : B.r = none ∨ ndL ls = true := by first | exact .inl rfl | exact .inr rfl) : J P n B (.region id ls.toArray true) Q l H := J_drawX ld lx Hx hk hm h (hd := hd)
theorem dO (ord' : List Nat) (h : JD ord' P n B ops Q ld H0 lx Hx fuel listed l H) : JD ord P n B ops Q ld H0 lx Hx fuel listed l H := h
theorem dDone (h : JQ n B Q .normal l H) (hr : Region.ready .any ops listed = [] := by kernel_rfl) : JD [] P n B ops Q ld H0 lx Hx fuel listed l H := JA_done hr h
theorem wAny (h : WN ops n l o true := by first | exact wn0 rfl | exact wn_g rfl rfl rfl rfl) : WN ops n l o true := h
theorem wOff (h : WN ops n l o false := by first | exact wn_g rfl rfl rfl rfl | exact wn_u rfl rfl rfl) : WN ops n l o false := h
theorem dP {i d : Nat} {v : Value} (hi : ops[i]? = some o) (hv : RP P n l o v) (k : JD ord P n B ops Q ld H0 lx Hx fuel (listed.setIfInBounds i true) ((d, v) :: l) H) (hd : o.dst = some d := by rfl) (hc : okT ops listed i (ld ++ lx) = true := by kernel_rfl) (hW : WN ops n l o true := by exact wAny) (hn : Nat.ble n d = false := by rfl) :
  JD (i :: ord) P n B ops Q ld H0 lx Hx (fuel + 1) listed l H := by obtain ⟨h1, h2, h3, h4⟩ := okT_out hc; exact JA_takeP hi hd h1 h2 h3 h4 hW hv hn k
theorem dL {i d : Nat} {v : Value} (hi : ops[i]? = some o) (hv : RV P n B l H0 o v) (k : JD ord P n B ops Q ld H0 lx Hx fuel (listed.setIfInBounds i true) ((d, v) :: l) H) (hd : o.dst = some d := by rfl) (_hl : ld.contains i = true := by rfl) (hc : okL ops listed i ld lx = true := by kernel_rfl) (hk : Pk H0 H := by repeat constructor) (hW : WN ops n l o true := by exact wAny) (hn : Nat.ble n d = false := by rfl) :
  JD (i :: ord) P n B ops Q ld H0 lx Hx (fuel + 1) listed l H := by obtain ⟨h1, h2, h3, h4, h5⟩ := okL_out hc; exact JA_takeL hi hd h1 h2 h3 h4 h5 hk hW hv hn k
theorem dX {i d : Nat} {v : Value} (hi : ops[i]? = some o) (hv : RV P n B l Hx o v) (k : JD ord P n B ops Q ld H0 lx Hx fuel (listed.setIfInBounds i true) ((d, v) :: l) H) (hd : o.dst = some d := by rfl) (_hl : lx.contains i = true := by rfl) (hc : okL ops listed i lx ld = true := by kernel_rfl) (hk : Pk Hx H := by repeat constructor) (hW : WN ops n l o true := by exact wAny) (hn : Nat.ble n d = false := by rfl) :
  JD (i :: ord) P n B ops Q ld H0 lx Hx (fuel + 1) listed l H := by obtain ⟨h1, h2, h3, h4, h5⟩ := okL_out hc; exact JA_takeX hi hd h1 h2 h3 h5 h4 hk hW hv hn k
theorem dF {i d : Nat} (hi : ops[i]? = some o) (hW : WN ops n l o false) (k : JD ord P n B ops Q ld H0 lx Hx fuel (listed.setIfInBounds i true) ((d, undef) :: l) H) (hd : o.dst = some d := by rfl) (_hl : (ld ++ lx).contains i = false := by rfl) (hc : okT ops listed i (ld ++ lx) = true := by kernel_rfl) (hn : Nat.ble n d = false := by rfl) :
  JD (i :: ord) P n B ops Q ld H0 lx Hx (fuel + 1) listed l H := by obtain ⟨h1, h2, h3, h4⟩ := okT_out hc; exact JA_off hi hd h1 h2 h3 h4 hW hn k
theorem dFL {i d : Nat} (hi : ops[i]? = some o) (hW : WN ops n l o false) (k : JD ord P n B ops Q ld H0 lx Hx fuel (listed.setIfInBounds i true) ((d, undef) :: l) H) (hd : o.dst = some d := by rfl) (hl : lx.contains i = false := by rfl) (_hx : ld.contains i = true := by rfl) (hc : okL ops listed i ld lx = true := by kernel_rfl) (hk : Pk H0 H := by repeat constructor) (hn : Nat.ble n d = false := by rfl) :
  JD (i :: ord) P n B ops Q ld H0 lx Hx (fuel + 1) listed l H := by obtain ⟨h1, h2, h3, h4, h5⟩ := okL_out hc; exact JA_offL hi hd h1 h2 h3 hl hk hW hn k
theorem dFX {i d : Nat} (hi : ops[i]? = some o) (hW : WN ops n l o false) (k : JD ord P n B ops Q ld H0 lx Hx fuel (listed.setIfInBounds i true) ((d, undef) :: l) H) (hd : o.dst = some d := by rfl) (hl : ld.contains i = false := by rfl) (_hx : lx.contains i = true := by rfl) (hc : okL ops listed i lx ld = true := by kernel_rfl) (hk : Pk Hx H := by repeat constructor) (hn : Nat.ble n d = false := by rfl) :
  JD (i :: ord) P n B ops Q ld H0 lx Hx (fuel + 1) listed l H := by obtain ⟨h1, h2, h3, h4, h5⟩ := okL_out hc; exact JA_offX hi hd h1 h2 h3 hl hk hW hn k
/-- One operation alone may come up. -/
theorem dW {i : Nat} {m : Option It} {T : Type} {φ : T → Prop} {D : T → Sl} {G : T → List It} (hi : ops[i]? = some o) (h : OpW P n B m l H o φ D G) (k : ∀ t, φ t → JD ord P n B ops Q ld H0 lx Hx fuel (listed.setIfInBounds i true) (D t) (G t)) (hr : Region.ready .any ops listed = [i] := by kernel_rfl) (hm : Kp ops ld lx Hx H i m := by first | exact trivial | exact ⟨by kernel_rfl, .inl (rfl : waitsB _ [] _ = true)⟩ | exact ⟨by kernel_rfl, .inr ⟨rfl, by repeat constructor⟩⟩) (hW : WN ops n l o true := by exact wAny) :
  JD (i :: ord) P n B ops Q ld H0 lx Hx (fuel + 1) listed l H := JA_one hr hi hW h hm k
theorem dS {i : Nat} {m : Option It} {D : Option Addr → Nat → Sl} {G : Option Addr → Nat → List It} (hi : ops[i]? = some o) (h : OpS P n B m l H o D G) (k : ∀ A c, JD ord P n B ops Q ld H0 lx Hx fuel (listed.setIfInBounds i true) (D A c) (G A c)) (hr : Region.ready .any ops listed = [i] := by kernel_rfl) (hm : Kp ops ld lx Hx H i m := by first | exact trivial | exact ⟨by kernel_rfl, .inl (rfl : waitsB _ [] _ = true)⟩ | exact ⟨by kernel_rfl, .inr ⟨rfl, by repeat constructor⟩⟩) (hW : WN ops n l o true := by exact wAny) :
  JD (i :: ord) P n B ops Q ld H0 lx Hx (fuel + 1) listed l H := JA_oneS hr hi hW h hm k
theorem dV {i d : Nat} {v : Value} (hi : ops[i]? = some o) (hv : RV P n B l H o v) (k : JD ord P n B ops Q ld H0 lx Hx fuel (listed.setIfInBounds i true) ((d, v) :: l) H) (hd : o.dst = some d := by rfl) (hr : Region.ready .any ops listed = [i] := by kernel_rfl) (hW : WN ops n l o true := by exact wAny) (hn : Nat.ble n d = false := by rfl) :
  JD (i :: ord) P n B ops Q ld H0 lx Hx (fuel + 1) listed l H := JA_oneV hr hi hd hW hv hn k
theorem dDec {d : Nat} {p : Prop} [Decidable p] (h1 : p → JD ord P n B ops Q ld H0 lx Hx fuel listed ((d, .bool true) :: l) H) (h2 : ¬ p → JD ord P n B ops Q ld H0 lx Hx fuel listed ((d, .bool false) :: l) H) : JD ord P n B ops Q ld H0 lx Hx fuel listed ((d, .bool (decide p)) :: l) H := JA_dec h1 h2
theorem dBool {d : Nat} {b : Bool} (h1 : b = true → JD ord P n B ops Q ld H0 lx Hx fuel listed ((d, .bool true) :: l) H) (h2 : b = false → JD ord P n B ops Q ld H0 lx Hx fuel listed ((d, .bool false) :: l) H) : JD ord P n B ops Q ld H0 lx Hx fuel listed ((d, .bool b) :: l) H := JA_bool h1 h2
theorem dDecT {d : Nat} {p : Prop} [Decidable p] (h1 : JD ord P n B ops Q ld H0 lx Hx fuel listed ((d, .bool true) :: l) H) (hp : p := by omega) : JD ord P n B ops Q ld H0 lx Hx fuel listed ((d, .bool (decide p)) :: l) H := JA_decT hp h1
theorem dDecF {d : Nat} {p : Prop} [Decidable p] (h1 : JD ord P n B ops Q ld H0 lx Hx fuel listed ((d, .bool false) :: l) H) (hp : ¬ p := by omega) : JD ord P n B ops Q ld H0 lx Hx fuel listed ((d, .bool (decide p)) :: l) H := JA_decF hp h1
theorem dBoolT {d : Nat} {b : Bool} (h1 : JD ord P n B ops Q ld H0 lx Hx fuel listed ((d, .bool true) :: l) H) (hb : b = true := by assumption) : JD ord P n B ops Q ld H0 lx Hx fuel listed ((d, .bool b) :: l) H := JA_boolT hb h1
theorem dBoolF {d : Nat} {b : Bool} (h1 : JD ord P n B ops Q ld H0 lx Hx fuel listed ((d, .bool false) :: l) H) (hb : b = false := by assumption) : JD ord P n B ops Q ld H0 lx Hx fuel listed ((d, .bool b) :: l) H := JA_boolF hb h1
/-! ### Plain regions -/
theorem aDecT {d : Nat} {p : Prop} [Decidable p] (h1 : JL P n B ops Q rest ((d, .bool true) :: l) H) (hp : p := by omega) : JL P n B ops Q rest ((d, .bool (decide p)) :: l) H := JL_decT hp h1
theorem aDecF {d : Nat} {p : Prop} [Decidable p] (h1 : JL P n B ops Q rest ((d, .bool false) :: l) H) (hp : ¬ p := by omega) : JL P n B ops Q rest ((d, .bool (decide p)) :: l) H := JL_decF hp h1
theorem aBoolT {d : Nat} {b : Bool} (h1 : JL P n B ops Q rest ((d, .bool true) :: l) H) (hb : b = true := by assumption) : JL P n B ops Q rest ((d, .bool b) :: l) H := JL_boolT hb h1
theorem aBoolF {d : Nat} {b : Bool} (h1 : JL P n B ops Q rest ((d, .bool false) :: l) H) (hb : b = false := by assumption) : JL P n B ops Q rest ((d, .bool b) :: l) H := JL_boolF hb h1
theorem aP {v : Value} {d : Nat} (hv : RP P n l o v) (k : JL P n B ops Q rest ((d, v) :: l) H) (hd : o.dst = some d := by rfl) (hW : WN ops n l o true := by exact wAny) (hn : Nat.ble n d = false := by rfl) : JL P n B ops Q (o :: rest) l H := JL_val hd hW (RP.rv hv) hn k
theorem aV {v : Value} {d : Nat} (hv : RV P n B l H o v) (k : JL P n B ops Q rest ((d, v) :: l) H) (hd : o.dst = some d := by rfl) (hW : WN ops n l o true := by exact wAny) (hn : Nat.ble n d = false := by rfl) : JL P n B ops Q (o :: rest) l H := JL_val hd hW hv hn k
theorem aF {d : Nat} (k : JL P n B ops Q rest ((d, undef) :: l) H) (hd : o.dst = some d := by rfl) (hW : WN ops n l o false := by exact wOff) (hn : Nat.ble n d = false := by rfl) : JL P n B ops Q (o :: rest) l H := JL_off hd hW hn k
theorem aF0 (k : JL P n B ops Q rest l H) (hd : o.dst = none := by rfl) (hW : WN ops n l o false := by exact wOff) : JL P n B ops Q (o :: rest) l H := JL_off0 hd hW k
theorem aW {m : Option It} {T : Type} {φ : T → Prop} {D : T → Sl} {G : T → List It} (h : OpW P n B m l H o φ D G) (k : ∀ t, φ t → JL P n B ops Q rest (D t) (G t)) (hW : WN ops n l o true := by exact wAny) : JL P n B ops Q (o :: rest) l H := JL_op hW h k
theorem aS {m : Option It} {D : Option Addr → Nat → Sl} {G : Option Addr → Nat → List It} (h : OpS P n B m l H o D G) (k : ∀ A c, JL P n B ops Q rest (D A c) (G A c)) (hW : WN ops n l o true := by exact wAny) : JL P n B ops Q (o :: rest) l H := JL_opS hW h k
/-! ### Covers, loops, cuts -/
theorem cov {l' l : Sl} (h : Cov l' l := by repeat (first | exact trivial | refine ⟨rfl, ?_⟩ | refine ⟨congrArg some (by go_num), ?_⟩ | refine ⟨congrArg (fun x => some (Value.int .i64 x)) (by omega), ?_⟩)) : Cov l' l := h
theorem kJ (l' : Sl) (h : J P n B c Q l' H) (hc : Cov l' l := by exact cov) : J P n B c Q l H := J_keep hc h
theorem xL {T : Type} (φ : T → Prop) (L : T → Sl) (HH : T → List It) (μ : T → Nat) (t0 : T) (h0 : φ t0) (round : ∀ t, φ t → J P n B c (Exit.then (LI n (fun _ => B) φ L HH μ (μ t)) Q) (L t) (HH t)) (hl : Cov (L t0) l := by exact cov) (hH : Pk (HH t0) H := by repeat constructor) : J P n B (.loop c) Q l H := J_loop φ L HH μ t0 h0 hl hH round
theorem xR {T : Type} {φ : T → Prop} {L : T → Sl} {HH : T → List It} {μ : T → Nat} {m : Nat} (t : T) (h0 : φ t) (hm : μ t < m) (hl : Cov (L t) l := by exact cov) (hH : Pk (HH t) H := by repeat constructor) : JQ n B (Exit.then (LI n (fun _ => B) φ L HH μ m) Q) .normal l H := JQ_round (B := fun _ => B) t h0 hm hl hH
theorem xC {T : Type} (φ : T → Prop) (L : T → Sl) (HH : T → List It) (h1 : J P n B x (Exit.then (CutP n B φ L HH) Q) l H) (h2 : ∀ t, φ t → J P n B y Q (L t) (HH t)) : J P n B (x.seq y) Q l H := J_cut φ L HH h1 h2
theorem xE {T : Type} {φ : T → Prop} {L : T → Sl} {HH : T → List It} (t : T) (h0 : φ t) (hl : Cov (L t) l := by exact cov) (hH : Pk (HH t) H := by repeat constructor) : JQ n B (Exit.then (CutP n B φ L HH) Q) .normal l H := JQ_cut t h0 hl hH
/-! ### Panics -/
theorem JQ_then_p {K : Act → World → Prop} {ch : List PanicEntry} (h : JQ n B Q (.panic ch) l H) : JQ n B (Exit.then K Q) (.panic ch) l H := fun a w ha hw => h a w ha hw
theorem JQ_block_p {i : Nat} {ch : List PanicEntry} (h : JQ n B Q (.panic ch) l H) : JQ n B (Exit.inBlock i Q) (.panic ch) l H := fun a w ha hw => h a w ha hw
end
end Go.Proofs.YtmcpnoailbmkkaaGreatDoor
/- The walk by live slots: runs of steps; calls, new memory, in short. Over any program. -/
namespace Go.Proofs.YtmcpnoailbmkkaaGreatDoor
open Go Go.RowKit Go.Proofs Go.Shelf

section
variable {P : Program} {n : Nat} {B : Bs} {Q Q' : Exit → Act → World → Prop} {l l' : Sl} {H H' : List It} {ops : Array Oper} {rest : List Oper} {o : Oper} {c x y : Code} {ld lx ord : List Nat} {H0 Hx : List It} {fuel : Nat} {listed : Array Bool}
def isBin : Op → Bool | .binOp .. => true | _ => false
def isCall : Op → Bool | .call _ => true | _ => false
def isLoad : Op → Bool | .load .. => true | _ => false
def isStore : Op → Bool | .store .. => true | _ => false
theorem gBin {v : Value} (_hk : isBin o.op = true := by rfl) (h : RP P n l o v := by
 first
  | exact pLss rfl rfl rfl | exact pAdd rfl rfl rfl | exact pEql rfl rfl rfl | exact pNeq rfl rfl rfl | exact pLeq rfl rfl rfl | exact pGtr rfl rfl rfl | exact pGeq rfl rfl rfl
  | exact pSub rfl rfl rfl | exact pEqlS rfl rfl rfl | exact pNeqS rfl rfl rfl | exact pLssS rfl rfl rfl | exact pLeqS rfl rfl rfl | exact pMul rfl rfl rfl
  | exact pCatS rfl rfl rfl | exact pNeqK rfl rfl rfl | exact pLssK rfl rfl rfl | exact pGtrK rfl rfl rfl | exact pQuo rfl rfl rfl | exact pRem rfl rfl rfl) : RP P n l o v := h
theorem gCall {v : Value} (_hk : isCall o.op = true := by rfl) (h : RP P n l o v := by
 first | exact pLen rfl rfl | exact pLenS rfl rfl | exact pMax rfl rfl rfl | exact pMin rfl rfl rfl) : RP P n l o v := h
/-- An operation without memory. -/
theorem pAny {v : Value} (h : RP P n l o v := by
 first
  | exact rp_move rfl rfl | exact rp_assign rfl rfl | exact gBin | exact gCall | exact rp_pickT rfl rfl rfl | exact rp_pickF rfl rfl rfl | exact rp_nil rfl rfl
  | exact pFieldE rfl rfl | exact pField rfl rfl | exact pIdx rfl rfl rfl | exact pNot rfl rfl | exact pExt rfl rfl rfl | exact rp_func rfl rfl rfl) : RP P n l o v := h
/-- A read of a block that is known. -/
theorem vAny {v : Value} (_hk : isLoad o.op = true := by rfl) (h : RV P n B l H o v := by
 first
  | exact vCell rfl rfl (by repeat constructor) rfl
  | exact vAgg [_, _] rfl rfl rfl (by repeat constructor) rfl
  | exact vAgg [_, _, _] rfl rfl rfl (by repeat constructor) rfl
  | exact vAgg [_, _, _, _] rfl rfl rfl (by repeat constructor) rfl
  | exact vAgg [_, _, _, _, _] rfl rfl rfl (by repeat constructor) rfl
  | exact vAgg [_, _, _, _, _, _] rfl rfl rfl (by repeat constructor) rfl
  | exact vAgg [_, _, _, _, _, _, _] rfl rfl rfl (by repeat constructor) rfl
  | exact vAgg [_, _, _, _, _, _, _, _] rfl rfl rfl (by repeat constructor) rfl
  | exact vAgg [_] rfl rfl rfl (by repeat constructor) rfl) : RV P n B l H o v := h
/-- A store into a block that is known. -/
theorem wAnyS {m : Option It} (_hk : isStore o.op = true := by rfl) (h : OpW P n B m l H o (fun _ : Unit => True) (fun _ => l) (fun _ => H') := by
 first
  | exact wStore (cs := [_]) rfl rfl rfl rfl rfl rfl rfl (by repeat constructor) rfl rfl
  | exact wStore (cs := [_, _]) rfl rfl rfl rfl rfl rfl rfl (by repeat constructor) rfl rfl
  | exact wStore (cs := [_, _, _]) rfl rfl rfl rfl rfl rfl rfl (by repeat constructor) rfl rfl
  | exact wStore (cs := [_, _, _, _]) rfl rfl rfl rfl rfl rfl rfl (by repeat constructor) rfl rfl
  | exact wStore (cs := [_, _, _, _, _]) rfl rfl rfl rfl rfl rfl rfl (by repeat constructor) rfl rfl
  | exact wStore (cs := [_, _, _, _, _, _]) rfl rfl rfl rfl rfl rfl rfl (by repeat constructor) rfl rfl
  | exact wStore (cs := [_, _, _, _, _, _, _, _]) rfl rfl rfl rfl rfl rfl rfl (by repeat constructor) rfl rfl) : OpW P n B m l H o (fun _ : Unit => True) (fun _ => l) (fun _ => H') := h
theorem aW0 {m : Option It} (h : OpW P n B m l H o (fun _ : Unit => True) (fun _ => l) (fun _ => H')) (k : JL P n B ops Q rest l H') (hW : WN ops n l o true := by exact wAny) : JL P n B ops Q (o :: rest) l H := JL_op hW h (fun _ _ => k)
theorem dW0 {i : Nat} {m : Option It} (hi : ops[i]? = some o) (h : OpW P n B m l H o (fun _ : Unit => True) (fun _ => l) (fun _ => H')) (k : JD ord P n B ops Q ld H0 lx Hx fuel (listed.setIfInBounds i true) l H') (hr : Region.ready .any ops listed = [i] := by kernel_rfl) (hm : Kp ops ld lx Hx H i m := by first | exact trivial | exact ⟨by kernel_rfl, .inl (rfl : waitsB _ [] _ = true)⟩ | exact ⟨by kernel_rfl, .inr ⟨rfl, by repeat constructor⟩⟩) (hW : WN ops n l o true := by exact wAny) :
  JD (i :: ord) P n B ops Q ld H0 lx Hx (fuel + 1) listed l H := JA_one hr hi hW h hm (fun _ _ => k)
/-- What is left to show, in a wrap (a tactic might lay hold of it). -/
structure Wr (R : Prop) : Prop where out : R
attribute [local irreducible] J JQ JL JA JD
/-- One step: at an operation of a plain region; of a drawn one; at any place. -/
theorem a1 {R : Prop} (r : R) (h : Wr R → JL P n B ops Q (o :: rest) l H := by
 intro r
 first
  | exact aF r.out | exact aV vAny r.out | exact aW0 wAnyS r.out | exact aP pAny r.out | exact aF0 r.out) : JL P n B ops Q (o :: rest) l H := h ⟨r⟩
theorem d1 {R : Prop} (r : R) (h : Wr R → JD ord P n B ops Q ld H0 lx Hx fuel listed l H := by
 intro r
 first
  | exact dDone r.out | exact dF rfl wOff r.out | exact dL rfl vAny r.out | exact dX rfl vAny r.out | exact dW0 rfl wAnyS r.out | exact dP rfl pAny r.out | exact dFL rfl wOff r.out | exact dFX rfl wOff r.out) : JD ord P n B ops Q ld H0 lx Hx fuel listed l H := h ⟨r⟩
theorem c1 {R : Prop} (r : R) (h : Wr R → J P n B c Q l H := by
 intro r
 first
  | exact J_seq r.out | exact J_reg r.out | exact J_yes rfl rfl r.out | exact J_no rfl rfl r.out | exact J_skip r.out | exact J_block r.out | exact J_exit r.out | exact J_ret r.out | exact J_label r.out) : J P n B c Q l H := h ⟨r⟩
theorem q1 {e : Exit} {R : Prop} (r : R) (h : Wr R → JQ n B Q e l H := by
 intro r
 first
  | exact JQ_then_n r.out | exact JQ_then_x r.out | exact JQ_then_r r.out | exact JQ_block_n r.out | exact JQ_block_r r.out | exact JQ_block_y rfl r.out | exact JQ_block_x rfl r.out | exact JQ_then_p r.out | exact JQ_block_p r.out) : JQ n B Q e l H := h ⟨r⟩
theorem s1 {A R : Prop} (r : R) (h : Wr R → A := by
 intro r
 first
  | (show J _ _ _ _ _ _ _; exact c1 r.out)
  | (show JQ _ _ _ _ _ _; exact q1 r.out)
  | (show JL _ _ _ _ _ (_ :: _) _ _; exact a1 r.out)
  | (show JL _ _ _ _ _ [] _ _; exact JL_nil r.out)
  | (show JD _ _ _ _ _ _ _ _ _ _ _ _ _ _; exact d1 r.out)) : A := h ⟨r⟩
end
theorem s2 {A R : Prop} (r : R) (h : Wr R → A := by
 intro r
 iterate 2 refine s1 ?_
 exact r.out) : A := h ⟨r⟩
theorem s3 {A R : Prop} (r : R) (h : Wr R → A := by
 intro r
 iterate 3 refine s1 ?_
 exact r.out) : A := h ⟨r⟩
theorem s4 {A R : Prop} (r : R) (h : Wr R → A := by
 intro r
 iterate 4 refine s1 ?_
 exact r.out) : A := h ⟨r⟩
theorem s5 {A R : Prop} (r : R) (h : Wr R → A := by
 intro r
 iterate 5 refine s1 ?_
 exact r.out) : A := h ⟨r⟩
theorem s6 {A R : Prop} (r : R) (h : Wr R → A := by
 intro r
 iterate 6 refine s1 ?_
 exact r.out) : A := h ⟨r⟩
theorem s7 {A R : Prop} (r : R) (h : Wr R → A := by
 intro r
 iterate 7 refine s1 ?_
 exact r.out) : A := h ⟨r⟩
theorem s8 {A R : Prop} (r : R) (h : Wr R → A := by
 intro r
 iterate 8 refine s1 ?_
 exact r.out) : A := h ⟨r⟩
theorem s9 {A R : Prop} (r : R) (h : Wr R → A := by
 intro r
 iterate 9 refine s1 ?_
 exact r.out) : A := h ⟨r⟩
theorem s10 {A R : Prop} (r : R) (h : Wr R → A := by
 intro r
 iterate 10 refine s1 ?_
 exact r.out) : A := h ⟨r⟩
theorem s11 {A R : Prop} (r : R) (h : Wr R → A := by
 intro r
 iterate 11 refine s1 ?_
 exact r.out) : A := h ⟨r⟩
theorem s12 {A R : Prop} (r : R) (h : Wr R → A := by
 intro r
 iterate 12 refine s1 ?_
 exact r.out) : A := h ⟨r⟩
theorem s13 {A R : Prop} (r : R) (h : Wr R → A := by
 intro r
 iterate 13 refine s1 ?_
 exact r.out) : A := h ⟨r⟩
theorem s14 {A R : Prop} (r : R) (h : Wr R → A := by
 intro r
 iterate 14 refine s1 ?_
 exact r.out) : A := h ⟨r⟩
theorem s15 {A R : Prop} (r : R) (h : Wr R → A := by
 intro r
 iterate 15 refine s1 ?_
 exact r.out) : A := h ⟨r⟩
theorem s16 {A R : Prop} (r : R) (h : Wr R → A := by
 intro r
 iterate 16 refine s1 ?_
 exact r.out) : A := h ⟨r⟩
theorem s17 {A R : Prop} (r : R) (h : Wr R → A := by
 intro r
 iterate 17 refine s1 ?_
 exact r.out) : A := h ⟨r⟩
theorem s18 {A R : Prop} (r : R) (h : Wr R → A := by
 intro r
 iterate 18 refine s1 ?_
 exact r.out) : A := h ⟨r⟩
theorem s19 {A R : Prop} (r : R) (h : Wr R → A := by
 intro r
 iterate 19 refine s1 ?_
 exact r.out) : A := h ⟨r⟩
theorem s20 {A R : Prop} (r : R) (h : Wr R → A := by
 intro r
 iterate 20 refine s1 ?_
 exact r.out) : A := h ⟨r⟩
theorem s23 {A R : Prop} (r : R) (h : Wr R → A := by
 intro r
 iterate 23 refine s1 ?_
 exact r.out) : A := h ⟨r⟩
theorem s24 {A R : Prop} (r : R) (h : Wr R → A := by
 intro r
 iterate 24 refine s1 ?_
 exact r.out) : A := h ⟨r⟩
theorem s28 {A R : Prop} (r : R) (h : Wr R → A := by
 intro r
 iterate 28 refine s1 ?_
 exact r.out) : A := h ⟨r⟩
theorem s29 {A R : Prop} (r : R) (h : Wr R → A := by
 intro r
 iterate 29 refine s1 ?_
 exact r.out) : A := h ⟨r⟩
theorem s31 {A R : Prop} (r : R) (h : Wr R → A := by
 intro r
 iterate 31 refine s1 ?_
 exact r.out) : A := h ⟨r⟩
theorem s32 {A R : Prop} (r : R) (h : Wr R → A := by
 intro r
 iterate 32 refine s1 ?_
 exact r.out) : A := h ⟨r⟩
theorem s38 {A R : Prop} (r : R) (h : Wr R → A := by
 intro r
 iterate 38 refine s1 ?_
 exact r.out) : A := h ⟨r⟩
section
variable {P : Program} {n : Nat} {B : Bs} {Q : Exit → Act → World → Prop} {l : Sl} {H : List It} {ops : Array Oper} {rest : List Oper} {o : Oper} {ld lx ord : List Nat} {H0 Hx : List It} {fuel : Nat} {listed : Array Bool}
/-! ### Calls of functions -/
theorem ecF {f : FuncId} {xs : List Operand} {ts : Array TypeId} {vs : List Value} [h : Cf P f] (ho : o.op = .call { callee := .value (.func f), args := xs.toArray, argTypes := ts }) (hx : evs l xs = some vs) : EC P n l o f vs.toArray := ec_fn ho hx h.h
theorem oB {f : FuncId} {xs : List Operand} {ts : Array TypeId} {vs : List Value} {v : Value} {d : Nat} [h : Cf P f] (hC : ∀ w, Wd B H w → Calls P f vs.toArray w (fun e w' => e = .returned v ∧ Below w.heap.size w w')) (ho : o.op = .call { callee := .value (.func f), args := xs.toArray, argTypes := ts } := by rfl) (hx : evs l xs = some vs := by rfl) (hd : o.dst = some d := by rfl) (hn : Nat.ble n d = false := by rfl) : OpW P n B none l H o (fun _ : Unit => True) (fun _ => (d, v) :: l) (fun _ => H) := ow_callB (ecF ho hx) hd hn hC
theorem aCB {f : FuncId} {xs : List Operand} {ts : Array TypeId} {vs : List Value} {v : Value} {d : Nat} [h : Cf P f] (hC : ∀ w, Wd B H w → Calls P f vs.toArray w (fun e w' => e = .returned v ∧ Below w.heap.size w w')) (k : JL P n B ops Q rest ((d, v) :: l) H) (ho : o.op = .call { callee := .value (.func f), args := xs.toArray, argTypes := ts } := by rfl) (hx : evs l xs = some vs := by rfl) (hd : o.dst = some d := by rfl) (hW : WN ops n l o true := by exact wAny) (hn : Nat.ble n d = false := by rfl) : JL P n B ops Q (o :: rest) l H := JL_op hW (oB hC ho hx hd hn) (fun _ _ => k)
theorem dCB {i : Nat} {f : FuncId} {xs : List Operand} {ts : Array TypeId} {vs : List Value} {v : Value} {d : Nat} [h : Cf P f] (hi : ops[i]? = some o) (hC : ∀ w, Wd B H w → Calls P f vs.toArray w (fun e w' => e = .returned v ∧ Below w.heap.size w w')) (k : JD ord P n B ops Q ld H0 lx Hx fuel (listed.setIfInBounds i true) ((d, v) :: l) H) (ho : o.op = .call { callee := .value (.func f), args := xs.toArray, argTypes := ts } := by rfl) (hx : evs l xs = some vs := by rfl) (hd : o.dst = some d := by rfl) (hr : Region.ready .any ops listed = [i] := by kernel_rfl) (hW : WN ops n l o true := by exact wAny) (hn : Nat.ble n d = false := by rfl) : JD (i :: ord) P n B ops Q ld H0 lx Hx (fuel + 1) listed l H := JA_one (m := none) hr hi hW (oB hC ho hx hd hn) trivial (fun _ _ => k)
theorem Back.of {v : Value} {w w' : World} {e : Ending} (h : e = .returned v ∧ w = w') : Back v w e w' := ⟨h.1, by rw [← h.2]; exact Below.refl _ _⟩
theorem oR {f : FuncId} {xs : List Operand} {ts : Array TypeId} {vs : List Value} {T : Type} {φ : T → Prop} {V : T → Value} {G : T → List It} {d : Nat} [h : Cf P f] (hC : ∀ w, Wd B H w → Calls P f vs.toArray w (Ret w φ V G)) (ho : o.op = .call { callee := .value (.func f), args := xs.toArray, argTypes := ts } := by rfl) (hx : evs l xs = some vs := by rfl) (hd : o.dst = some d := by rfl) (hn : Nat.ble n d = false := by rfl) (hr : ∀ t, ((G t).all fun A => !A.ro) = true := by exact fun _ => rfl) : OpW P n B none l H o φ (fun t => (d, V t) :: l) (fun t => G t ++ H) := ow_callR (ecF ho hx) hd hn hr hC
theorem oS {α : Type} {ty k : Nat} {enc : α → List Value} {L : List α} {f : FuncId} {xs : List Operand} {ts : Array TypeId} {vs : List Value} {d : Nat} [h : Cf P f] (hC : ∀ w, Wd B H w → Calls P f vs.toArray w (RetS ty k enc L w)) (ho : o.op = .call { callee := .value (.func f), args := xs.toArray, argTypes := ts } := by rfl) (hx : evs l xs = some vs := by rfl) (hd : o.dst = some d := by rfl) (hn : Nat.ble n d = false := by rfl) : OpS P n B none l H o (fun A c => (d, .slice A L.length c) :: l) (fun A c => ownB ty k A L.length c (L.flatMap enc) :: H) := ow_callS (ecF ho hx) hd hn hC
theorem oM {A : It} {T : Type} {φ : T → Prop} {V : T → Value} {C : T → It} {G : T → List It} {f : FuncId} {xs : List Operand} {ts : Array TypeId} {vs : List Value} {d : Nat} [h : Cf P f] (hC : ∀ w, Wd B H w → Calls P f vs.toArray w (RetM A φ V C w)) (ho : o.op = .call { callee := .value (.func f), args := xs.toArray, argTypes := ts } := by rfl) (hx : evs l xs = some vs := by rfl) (hd : o.dst = some d := by rfl) (hn : Nat.ble n d = false := by rfl) (hAr : A.ro = false := by rfl) (hCr : ∀ t, (C t).ro = false := by exact fun _ => rfl) (hat : ∀ t, At A (C t) H (G t) := by intro t; repeat constructor) : OpW P n B (some A) l H o φ (fun t => (d, V t) :: l) G := ow_callM (ecF ho hx) hd hn hAr hCr hat hC
theorem oL (HA H1 : List It) {T : Type} {φ : T → Prop} {V : T → Value} {G : T → List It} {f : FuncId} {xs : List Operand} {ts : Array TypeId} {vs : List Value} {d : Nat} [h : Cf P f] (hC : ∀ w, Wd B H w → Wd B HA w → Calls P f vs.toArray w (RetL HA φ V G w)) (ho : o.op = .call { callee := .value (.func f), args := xs.toArray, argTypes := ts } := by rfl) (hx : evs l xs = some vs := by rfl) (hd : o.dst = some d := by rfl) (hn : Nat.ble n d = false := by rfl) (hk : Pk (HA ++ H1) H := by repeat constructor) (hA : (HA.all fun A => !A.ro) = true := by rfl) (hG : ∀ t, ((G t).all fun A => !A.ro) = true := by exact fun _ => rfl) : OpW P n B (some (allI HA)) l H o φ (fun t => (d, V t) :: l) (fun t => G t ++ H1) := ow_callL HA H1 (ecF ho hx) hd hn hk hA hG hC
/-! ### New memory -/
theorem dOA (ord' : List Nat) (h : JD ord' P n B ops Q ld H0 lx Hx fuel listed l H) : JA P n B ops Q ld H0 lx Hx fuel listed l H := h
theorem oApp {α : Type} {k : Nat} {enc : α → List Value} (E : Enc k enc) {sl e ty' : TypeId} {z : Value} {bytes d : Nat} {x y : Operand} {A : Option Addr} {c c' b : Nat} {L : List α} {cs : List Value} {G : Option Addr → Nat → List It} (r : α) [u : Und P sl (.slice e)] [i : Inf P e z k bytes] (ho : o.op = .call { callee := .builtin .append, args := #[x, y], argTypes := #[sl, sl] } := by rfl) (hk : 0 < k := by decide) (hzs : z.cells.size = k := by rfl) (hby : bytes ≤ 128 := by decide) (hd : o.dst = some d := by rfl) (hn : Nat.ble n d = false := by rfl) (hx : evl l x = some (.slice A L.length c) := by rfl) (hy : evl l y = some (.slice (some ⟨b, 0, none⟩) 1 c') := by rfl) (hm : cellB b cs ty' ∈ H := by repeat constructor) (hcs : cs = enc r := by rfl) (hl : L.length + 1 ≤ 1000000 := by omega)
  (hat : ∀ A' c', At (ownB e k A L.length c (L.flatMap enc)) (ownB e k A' (L ++ [r]).length c' ((L ++ [r]).flatMap enc)) H (G A' c') := by intro A c; repeat constructor) : OpS P n B (some (ownB e k A L.length c (L.flatMap enc))) l H o (fun A' c' => (d, .slice A' (L ++ [r]).length c') :: l) G := ow_app1 E hk r u.h i.h hzs hby ho hd hn hx hy hm hcs hl hat
theorem oA {d : Nat} {ty : TypeId} {v : Value} {vs : List Value} [z : Zer P ty v] (ho : o.op = .alloc ty := by rfl) (hv : v.cells = vs.toArray := by rfl) (hd : o.dst = some d := by rfl) (hn : Nat.ble n d = false := by rfl) : OpW P n B none l H o (fun b : Nat => B.w.heap.size ≤ b) (fun b => (d, .pointer (some ⟨b, 0, none⟩)) :: l) (fun b => cellB b vs ty :: H) := ow_alloc ho hd z.h hv hn
theorem oX {d : Nat} {x : Operand} {v : Value} {ty : TypeId} (vs : List Value) (ho : o.op = .box ty x := by rfl) (hx : evl l x = some v := by rfl) (hv : v.cells = vs.toArray := by rfl) (hd : o.dst = some d := by rfl) (hn : Nat.ble n d = false := by rfl) : OpW P n B none l H o (fun b : Nat => B.w.heap.size ≤ b) (fun b => (d, .pointer (some ⟨b, 0, none⟩)) :: l) (fun b => cellB b vs ty :: H) := ow_box ho hx hv hd hn
end
end Go.Proofs.YtmcpnoailbmkkaaGreatDoor
/- Maps of the call's own, with a bound on their entries; an entry that is laid first and written then. Over any program. -/
namespace Go.Proofs.YtmcpnoailbmkkaaGreatDoor
open Go Go.RowKit Go.Proofs Go.Shelf Go.ChangeMaps

def mapK (P : Program) {α β : Type} (kt e : TypeId) (kv : α → Value) (ok : α → Prop) (ed : β → DataW Unit) (b k : Nat) (m : α → Option β) : It where
 foot x := x = b
 holds w := ∃ n c, n ≤ k ∧ MapF P kt e kv ok ed w b n c m
 st _ _ h h1 := by obtain ⟨n, c, h0, h1⟩ := h1; exact ⟨n, c, h0, h1.heap (h b rfl)⟩
section
variable {P : Program} {α β : Type} {kt e t : TypeId} {kv : α → Value} {ok : α → Prop} {ev : β → Value} {ed : β → DataW Unit} {z : β} {okE : β → Prop}
variable {n : Nat} {B : Bs} {Q : Exit → Act → World → Prop} {l : Sl} {H H' : List It} {ops : Array Oper} {rest : List Oper} {o : Oper} {x y q : Operand}
theorem ow_makeK {d : Nat} (ho : o.op = .makeMap t none) (hd : o.dst = some d) (hn : Nat.ble n d = false) (hm : ∀ w, (Instr.makeMap t none).run P w = .ok (.map (some w.heap.size)) (w.alloc (.map #[] 0))) :
  OpW P n B none l H o (fun b : Nat => B.w.heap.size ≤ b) (fun b => (d, .map (some b)) :: l) (fun b => mapK P kt e kv ok ed b 0 (fun _ => none) :: H) :=
 OpW.of_run hd hn (fun a w _ hw => by
  have hm' : (mapK P kt e kv ok ed w.heap.size 0 (fun _ => none)).holds (w.alloc (.map #[] 0)) := ⟨0, 0, Nat.le_refl _, MapF.made w⟩
  exact ⟨w.heap.size, w.alloc (.map #[] 0), hw.size, by unfold execOp; rw [ho]; simp only [Option.map_none, Sem.run_bind, hm, Result.andThen_ok, Sem.run_pure], hw.new ((Below.refl _ _).alloc (Nat.le_refl _) _) hm' (fun b e => by cases e; simp), (show Below _ _ _ from (Below.refl _ _).alloc (Nat.le_refl _) _)⟩)
theorem rv_lookK2 {b m' : Nat} {f : α → Option β} {u : Value} {r : Option β} (K : KeyL P kt kv ok) (E : ElL P e ev ed z okE) (k : α) (ht : P.underlying t = some (.map kt e)) (ho : o.op = .lookup t x y true) (hx : evl l x = some (.map (some b))) (hy : evl l y = some u) (hm : mapK P kt e kv ok ed b m' f ∈ H) (hu : u = kv k) (hk : ok k) (hr : f k = r) : RV P n B l H o (.tuple #[ev (r.getD z), .bool r.isSome]) := fun a w ha hw => by
 subst hr
 obtain ⟨n, c, -, h⟩ := (hw.ok _ hm).1
 unfold execOp; rw [ho]; simp only [ha.ev hx, ha.ev hy, hu, Sem.run_bind, h.look2 K E ht hk, Result.andThen_ok, Sem.run_pure]
theorem ow_putK [DecidableEq α] {b m' m'' : Nat} {f : α → Option β} {u s : Value} (K : KeyL P kt kv ok) (E : ElL P e ev ed z okE) (k : α) (r : β) (ht : P.underlying t = some (.map kt e)) (ho : o.op = .mapUpdate t x y q) (hd : o.dst = none) (hx : evl l x = some (.map (some b))) (hy : evl l y = some u) (hq : evl l q = some s) (hu : u = kv k) (hs : s = ev r)
  (hat : At (mapK P kt e kv ok ed b m' f) (mapK P kt e kv ok ed b m'' (upd f k r)) H H') (hk : ok k) (hr : okE r) (hmn : m' < 1000000) (hm2 : m' + 1 ≤ m'') : OpW P n B (some (mapK P kt e kv ok ed b m' f)) l H o (fun _ : Unit => True) (fun _ => l) (fun _ => H') :=
 OpW.of_skip hd (fun a w ha hw => by
  obtain ⟨n, c, h0, h⟩ := (hw.ok _ hat.mem).1
  obtain ⟨w', h1, h2, h3⟩ := h.put K E ht (by omega) hk hr
  have hc : Chg (mapK P kt e kv ok ed b m' f) w w' := ⟨h3.os, h3.tape, h3.output, h3.size, fun k hk hnk => h3.block k hk (fun e => hnk (by injection e))⟩
  refine ⟨(), w', trivial, by unfold execOp; rw [ho]; simp only [ha.ev hx, ha.ev hy, ha.ev hq, hu, hs, Sem.run_bind, h1, Result.andThen_ok, Sem.run_pure], hw.chg hat rfl rfl hc ⟨_, _, by omega, h2⟩ (fun k hk => ⟨.inl hk, ?_⟩), hc⟩
  have : k = b := hk
  subst this
  exact h2.lt)
end
end Go.Proofs.YtmcpnoailbmkkaaGreatDoor
/- A range over a map of the call's own. Over any program. -/
namespace Go.Proofs.YtmcpnoailbmkkaaGreatDoor
open Go Go.RowKit Go.Proofs Go.Shelf

section
variable {P : Program} {α β : Type} [DecidableEq α] {kt e t : TypeId} {kv : α → Value} {ok : α → Prop} {ev : β → Value} {ed : β → DataW Unit} {z : β} {okE : β → Prop}
variable {n : Nat} {B : Bs} {Q : Exit → Act → World → Prop} {l : Sl} {H H' : List It} {o : Oper} {x y q : Operand}
end
end Go.Proofs.YtmcpnoailbmkkaaGreatDoor
/- A range over a function whose iterator reads what the rounds write. Over any program. -/
namespace Go.Proofs.YtmcpnoailbmkkaaGreatDoor
open Go Go.RowKit Go.Proofs Go.Shelf
attribute [local go_sem] Oper.semAt_some

def mark (D : Nat) : Deferred := { target := .collected D, args := #[] }
/-- The blocks of the loops that are done. -/
def defsB (Ds : List Nat) : It where
 foot b := b ∈ Ds
 holds w := Ds.Nodup ∧ ∀ D ∈ Ds, w.heap[D]? = some (.deferred (some []))
 st _ _ h h1 := ⟨h1.1, fun D hD => (h D hD).trans (h1.2 D hD)⟩
/-- The record of a loop that runs. -/
def loopB (lp : Nat) (L : Loop) (Ds : List Nat) : It where
 foot b := b = lp ∨ b ∈ Ds
 holds w := lp ∉ Ds ∧ Ds.Nodup ∧ w.heap[lp]? = some (.loop L) ∧ ∀ D ∈ Ds, w.heap[D]? = some (.deferred (some []))
 st _ _ h h1 := ⟨h1.1, h1.2.1, (h lp (.inl rfl)).trans h1.2.2.1, fun D hD => (h D (.inr hD)).trans (h1.2.2.2 D hD)⟩
section
variable {P : Program} {n : Nat} {B : Bs} {Q : Exit → Act → World → Prop} {l : Sl} {H H' : List It} {c : Code} {w w' : World}
theorem Wd.re (h : Wd B H w) (r : Option Nat) (d : List Deferred) : Wd ⟨B.w, B.m, r, d⟩ H w := ⟨h.os, h.tape, h.output, h.size, h.block, h.ok, h.sep⟩
theorem Wd.un {w0 : World} {m : Nat → Prop} {r r' : Option Nat} {d d' : List Deferred} (h : Wd ⟨w0, m, r, d⟩ H w) : Wd ⟨w0, m, r', d'⟩ H w := ⟨h.os, h.tape, h.output, h.size, h.block, h.ok, h.sep⟩
theorem J_defs (h : J P n B c Q l (defsB [] :: H)) : J P n B c Q l H := fun a w ha hw => h a w ha (hw.new (Below.refl _ _) ⟨List.nodup_nil, fun _ h => (by cases h)⟩ (fun _ h => (by cases h)))
theorem Chg.putObj {A : It} {b : Nat} {o' : Obj} (hA : A.foot b) : Chg A w (w.putObj b o') :=
 ⟨(grownBy_putObj' w b o').os, (grownBy_putObj' w b o').tape, (grownBy_putObj' w b o').output, (grownBy_putObj' w b o').size, fun _ _ hf => World.putObj_heap_other (fun e => hf (e ▸ hA))⟩
theorem Wd.loop {lp : Nat} {L L' : Loop} {Ds : List Nat} (h : Wd B H w) (hat : At (loopB lp L Ds) (loopB lp L' Ds) H H') : Wd B H' (w.putObj lp (.loop L')) := by
 have hh := (h.ok _ hat.mem).1
 have hlt : lp < w.heap.size := (Array.getElem?_eq_some_iff.1 hh.2.2.1).1
 have hc : Chg (loopB lp L Ds) w (w.putObj lp (.loop L')) := Chg.putObj (.inl rfl)
 refine h.chg hat rfl rfl hc ⟨hh.1, hh.2.1, World.putObj_heap_same hlt, fun D hD => (World.putObj_heap_other (fun (e : D = lp) => hh.1 (by rw [← e]; exact hD))).trans (hh.2.2.2 D hD)⟩ (fun b hb => ⟨.inl hb, ?_⟩)
 have := ((h.ok _ hat.mem).2 b hb).2
 exact Nat.lt_of_lt_of_le this hc.size
/-! ### A function with such loops -/
theorem J_startM {f : FuncId} {fn : Func} {args : Array Value} {w : World} {R : Ending → World → Prop} (hr : B.r = none) (hd : B.d = []) {vs : List Value} {k : Nat} (hf : P.funcs[f]? = some fn) (hb : fn.body = some c) (ha : args = vs.toArray) (hn : fn.ntmps = n) (hk : vs.length + k = n) (hl : en 0 vs = l)
  (hH : Wd B H w) (h : J P n B c (bodyPostM Fence.wide 0 P fn R) l H) : Calls P f args w R := by
 subst ha hl
 refine (callsIn_wide (n := 0)).1 (callsIn_of_wp_marks hf hb trivial ?_ rfl)
 have e : fn.ntmps - vs.toArray.size = k := by simp; omega
 rw [e]
 have h1 := h { tmps := vs.toArray ++ Array.replicate k undef, defers := [] } w (by rw [← hk]; exact Fr.start vs k) hH
 unfold Wp at h1
 rw [hr] at h1
 have e2 : B.df { tmps := vs.toArray ++ Array.replicate k undef, defers := [] } = { tmps := vs.toArray ++ Array.replicate k undef, defers := [] } := by unfold Bs.df; rw [hd]
 rw [e2] at h1
 exact wpIn_mono (h1 0) (NO.imp (fun _ _ _ _ h => h))
theorem Wd.take {D : Nat} {Ds : List Nat} (h : Wd B H w) (hat : At (defsB (D :: Ds)) (defsB Ds) H H') : (Instr.takeDeferred D).run P w = .ok [] (w.putObj D (.deferred none)) ∧ Wd B H' (w.putObj D (.deferred none)) := by
 have hh := h.ok _ hat.mem
 have hD := hh.1.2 D (by simp)
 have hn := List.nodup_cons.1 hh.1.1
 refine ⟨run_takeDeferred hD, h.chg hat rfl rfl (Chg.putObj (by simp [defsB])) ⟨hn.2, fun C hC => (World.putObj_heap_other (fun (e : C = D) => hn.1 (by rw [← e]; exact hC))).trans (hh.1.2 C (by simp [hC]))⟩ (fun b hb => ⟨.inl (by simp only [defsB] at hb ⊢; simp [hb]), ?_⟩)⟩
 have := (hh.2 b (by simp only [defsB] at hb ⊢; simp [hb])).2
 exact Nat.lt_of_lt_of_le this (grownBy_putObj' w D _).size
theorem JR_marks {fn : Func} {R : Ending → World → Prop} {r : ResultVar} {v : Value} {k : Nat} (HX : It → List It) {Ds : List Nat} (hr : fn.results = #[r]) (h1 : ∀ A, RR P n B l (HX A) r v) (hR : ∀ w, Wd B (HX (defsB [])) w → R (.returned v) w) (hd : B.d = Ds.map mark := by rfl) (hH : Pk (HX (defsB Ds)) H := by repeat constructor) (hat : ∀ A C, At A C (HX A) (HX C) := by intro A C; repeat constructor) :
  JQ n B (bodyPostM Fence.wide k P fn R) .ret l H := by
 intro a w ha hw
 show LeavesInM Fence.wide k P fn a.tmps R B.d .returning w
 rw [hd]
 have hw' := hw.pick hH
 clear hw hH hd
 induction Ds generalizing w with
 | nil =>
  refine ⟨v, ?_, hR w hw'⟩
  have h1 := h1 _ a w ha hw'
  rw [results_rvS, hr]
  simp [h1]
 | cons D Ds ih =>
  obtain ⟨h2, h3⟩ := Wd.take (P := P) hw' (hat _ _)
  exact ⟨by simp, .inl ⟨D, _, rfl, h2, ih _ h3⟩⟩
/-! ### A call of yield -/
def JLi (P : Program) (n : Nat) (B : Bs) (ops : Array Oper) (Q : Exit → Act → World → Prop) (rest : List Oper) (l : Sl) (H : List It) : Prop := ∀ a w, Fr n l a → Wd B H w → ∀ m, wpListIn Fence.wide m P ops (NO Q) rest (B.df a) w
variable {ops : Array Oper} {rest : List Oper} {o : Oper}
theorem J_regI {id : Nat} {ls : List Oper} (h : JLi P n B ls.toArray Q ls l H) (hr : B.r = none := by rfl) : J P n B (.region id ls.toArray false) Q l H := fun a w ha hw m => by
 rw [hr]; exact wpIn_region_lit (h a w ha hw m)
theorem iN (h : JQ n B Q .normal l H) : JLi P n B ops Q [] l H := fun a w ha hw _ => h a w ha hw
theorem iV {d : Nat} {v : Value} (hv : RV P n B l H o v) (k : JLi P n B ops Q rest ((d, v) :: l) H) (hnd : isDef o.op = false := by rfl) (hd : o.dst = some d := by rfl) (hW : WN ops n l o true := by exact wAny) (hn : Nat.ble n d = false := by rfl) : JLi P n B ops Q (o :: rest) l H := fun a w ha hw m =>
 wpListIn_step (fun K hK => by
  rw [if_pos (hW.D ha)]
  unfold Oper.wpIn
  refine ⟨fun _ _ => trivial, ?_⟩
  rw [Oper.semAt_plain _ _ _ (fun c hc => by rw [hc] at hnd; cases hnd), show (execOp (B.df a).eval o).run P w = _ from hv a w ha hw]
  show K ((B.df a).put o.dst v) w
  rw [hd]
  exact hK _ _ (by rw [Bs.df_put]; exact k _ _ (ha.put d v hn) hw m))
theorem iY {T : Type} {φ : T → Prop} {HH : T → List It} {ts : Array TypeId} {x y : Operand} {lp d : Nat} {v : Value} (hY : ∀ W, Wd B H W → ∀ m, YieldAt Fence.wide m P lp #[v] W (fun e W2 => e = .returned (.bool true) ∧ ∃ t', φ t' ∧ Wd B (HH t') W2))
  (k : ∀ t', φ t' → JLi P n B ops Q rest ((d, .bool true) :: l) (HH t')) (ho : o.op = .call { callee := .value x, args := #[y], argTypes := ts } := by rfl) (hx : evl l x = some (.func (.yield lp) #[] #[]) := by rfl) (hy : evl l y = some v := by rfl) (hd : o.dst = some d := by rfl) (hW : WN ops n l o true := by exact wAny) (hn : Nat.ble n d = false := by rfl) :
  JLi P n B ops Q (o :: rest) l H := fun a w ha hw m =>
 wpListIn_step (fun K hK => by
  rw [if_pos (hW.D ha)]
  obtain ⟨fn, tmps, assign, body, h1, h2⟩ := hY w hw (m - 1)
  have he : (execOp (B.df a).eval o).run P w = .ok (.round lp fn tmps assign body) w := by
   unfold execOp; rw [ho]
   simp only [resolve, ha.evD hx, List.map_toArray, List.map_cons, List.map_nil]
   simp [Deferred.ofValue, invoke, ha.evD hy, h1]
  unfold Oper.wpIn
  refine ⟨fun _ _ => trivial, ?_⟩
  rw [Oper.semAt_plain _ _ _ (fun c hc => by rw [ho] at hc; cases hc), he, Oper.uponIn_round]
  refine ⟨fun h => (by cases h), h2.mono ?_⟩
  rintro e W2 ⟨rfl, t', h3, h4⟩
  show K ((B.df a).put o.dst (.bool true)) W2
  rw [hd]
  exact hK _ _ (by rw [Bs.df_put]; exact k t' h3 _ _ (ha.put d _ hn) h4 m))
end
end Go.Proofs.YtmcpnoailbmkkaaGreatDoor
/- Calls that are put off; recover. Over any program. -/
namespace Go.Proofs.YtmcpnoailbmkkaaGreatDoor
open Go Go.RowKit Go.Proofs Go.Shelf
attribute [local go_sem] Oper.semAt_some
section
variable {P : Program} {n : Nat} {B : Bs} {Q : Exit → Act → World → Prop} {l : Sl} {H H' : List It} {c : Code} {w w' : World} {ops : Array Oper} {rest : List Oper} {o : Oper} {a : Act}
abbrev later (f : FuncId) (caps : Array Value) : Deferred := { target := .fn (.func f) caps, args := #[] }
theorem J.wp (h : J P n B c Q l H) (ha : Fr n l a) (hw : Wd B H w) (hr : B.r = none := by rfl) : c.wp P Q (B.df a) w := by
 have h1 := h a w ha hw
 unfold Wp at h1
 rw [hr] at h1
 exact wp_mono (wpIn_wide.1 (h1 0)) (NO.imp (fun _ _ _ _ h => h))
/-- Two items as one. -/
def unI (A C : It) : It where
 foot b := A.foot b ∨ C.foot b
 holds w := A.holds w ∧ C.holds w ∧ ∀ b, A.foot b → C.foot b → False
 st w w' h h1 := ⟨A.st w w' (fun b hb => h b (.inl hb)) h1.1, C.st w w' (fun b hb => h b (.inr hb)) h1.2.1, h1.2.2⟩
theorem Wd.split {A C : It} (h : Wd B (unI A C :: H) w) : Wd B (A :: C :: H) w := by
 have hs := List.pairwise_cons.1 h.sep
 have o := h.ok (unI A C) (by simp)
 have hf : ∀ b, A.foot b ∨ C.foot b → (False ∨ B.m b ∨ B.w.heap.size ≤ b) ∧ b < w.heap.size := fun b hb => by
  have := o.2 b hb
  exact ⟨this.1.imp_left (fun h => by cases h), this.2⟩
 have hd : ∀ D ∈ H, ∀ b, A.foot b ∨ C.foot b → D.foot b → False := fun D hD => sepR.out (hs.1 D hD) rfl
 refine ⟨h.os, h.tape, h.output, h.size, h.block, fun D hD => ?_, List.pairwise_cons.2 ⟨fun D hD => .inr (fun b h1 h2 => ?_), List.pairwise_cons.2 ⟨fun D hD => .inr (fun b h1 h2 => hd D hD b (.inr h1) h2), hs.2⟩⟩⟩
 ·rcases List.mem_cons.1 hD with rfl | hD
  ·exact ⟨o.1.1, fun b hb => ⟨(hf b (.inl hb)).1.imp_left (fun h => h.elim), (hf b (.inl hb)).2⟩⟩
  ·rcases List.mem_cons.1 hD with rfl | hD
   ·exact ⟨o.1.2.1, fun b hb => ⟨(hf b (.inr hb)).1.imp_left (fun h => h.elim), (hf b (.inr hb)).2⟩⟩
   ·exact h.ok D (by simp [hD])
 ·rcases List.mem_cons.1 hD with rfl | hD
  ·exact o.1.2.2 b h1 h2
  ·exact hd D hD b (.inl h1) h2
theorem Wd.keepO {A C : It} {H0 : List It} {w0 : World} (hw : Wd B H w0) (hW : Wd ⟨w0, A.foot, none, []⟩ H0 w) (hk : Pk [C, A] H) (hr : C.ro = false) : C.holds w ∧ ∀ b, C.foot b → ¬ A.foot b := by
 have h2 := hw.pick hk
 have hs := sepR.out ((List.pairwise_cons.1 h2.sep).1 A (by simp)) hr
 have o := h2.ok C (by simp)
 exact ⟨C.st w0 w (fun b hb => hW.block b (o.2 b hb).2 (fun h => hs b hb h)) o.1, fun b hb h => hs b hb h⟩
end
end Go.Proofs.YtmcpnoailbmkkaaGreatDoor
/- The walk by live slots: appends of whole slices of rows that the function owns. Over any program. -/
namespace Go.Proofs.YtmcpnoailbmkkaaGreatDoor
open Go Go.RowKit Go.Proofs
section
variable {P : Program} {n : Nat} {B : Bs} {Q : Exit → Act → World → Prop} {ops : Array Oper} {rest : List Oper} {l : Sl} {H : List It} {o : Oper}
theorem Arr.drop {α : Type} {k : Nat} {enc : α → List Value} {A : Option Addr} {n c m : Nat} {w : World} {l : List α} (h : Arr k enc w (.slice A n c) l) (hm : m ≤ l.length) : Arr k enc w (.slice (if c = m then A else A.map (·.add (m * k))) (n - m) (c - m)) (l.drop m) := by
 obtain ⟨A', cap, e, h2, h3, h4⟩ := h
 injection e with e1 e2 e3
 subst e1 e2 e3
 refine ⟨_, c - m, by rw [List.length_drop], by rw [List.length_drop]; omega, ⟨by rw [List.length_drop]; omega, by omega⟩, fun hn => ?_⟩
 have hl : m < l.length := by
  rcases Nat.lt_or_ge m l.length with h | h
  ·exact h
  ·exact absurd (List.drop_eq_nil_of_le h) hn
 obtain ⟨b, o, rfl, hh⟩ := h4 (by intro e; subst e; simp at hl)
 refine ⟨b, o + m * k, by rw [if_neg (by omega)]; show some (Addr.add _ _) = _; rw [Addr.add_mid], fun j hj i hi => ?_⟩
 rw [List.length_drop] at hj
 have := hh (m + j) (by omega) i hi
 rw [List.getElem_drop, ← this, Nat.add_mul, ← Nat.add_assoc]
/-- What is known of a row of our own: its form. -/
theorem own_cn {ty k m c : Nat} {A : Option Addr} {xs : List Value} (hw : ∃ w, Wd B H w) (hm : ownB ty k A m c xs ∈ H) : (m ≤ c ∧ c ≤ maxLen) ∧ (A = none → c = 0) := by
 refine ⟨own_cap hw hm, ?_⟩
 obtain ⟨w, hw⟩ := hw
 have h1 : w.ownsRow 0 ty k (.slice A m c) m xs := (hw.ok _ hm).1
 rcases h1.2 with ⟨e, h0⟩ | ⟨g, cap, cur, hv, -⟩
 ·injection e with e1 e2 e3; exact fun _ => e3
 ·injection hv with e1 e2 e3; intro e; rw [e] at e1; cases e1
theorem own_arr {α : Type} {k : Nat} {enc : α → List Value} (E : Enc k enc) {w : World} {ty c : Nat} {A : Option Addr} {L : List α} (hw : Wd B H w) (hm : ownB ty k A L.length c (L.flatMap enc) ∈ H) (hl : L.length ≤ 9223372036854775807) : Arr k enc w (.slice A L.length c) L := Arr.of_own E (hw.ok _ hm).1 hl
theorem run_append0' {P : Program} {w : World} (sl e ty : TypeId) (A : Option Addr) (m c c' sz : Nat) (ht : P.underlying sl = some (.slice e)) (hs : ∀ w, (sizeOf e).run P w = .ok sz w) (hmc : m ≤ c) : (Builtin.append_ #[sl, sl] ty #[.slice A m c, .slice none 0 c']).run P w = .ok (.slice A m c) w := by
 cases A <;> simp [Builtin.append_, run_underlying ht, hs, Builtin.lenOf, Builtin.firstCells, storeCells, hmc, Sem.run_bind]
theorem ow_appY {α : Type} {k : Nat} {enc : α → List Value} (E : Enc k enc) (hk : 0 < k) {sl e : TypeId} {z : Value} {bytes d : Nat} {x y : Operand} {A Y : Option Addr} {c m c' : Nat} {L M : List α} {G : Option Addr → Nat → List It}
  (ht : P.underlying sl = some (.slice e)) (hinf : (P.info? e).map (fun i => (i.zero, i.size, i.bytes)) = some (some z, k, bytes)) (hzs : z.cells.size = k) (hby : bytes ≤ 128) (hs : ∀ w, (sizeOf e).run P w = .ok k w)
  (ho : o.op = .call { callee := .builtin .append, args := #[x, y], argTypes := #[sl, sl] }) (hd : o.dst = some d) (hn : Nat.ble n d = false) (hx : evl l x = some (.slice A L.length c)) (hy : evl l y = some (.slice Y m c')) (hm : m = M.length) (hLc : L.length ≤ c)
  (hnews : ∀ w, Wd B H w → Arr k enc w (.slice Y m c') M) (hl : L.length + M.length ≤ 1000000)
  (hat : ∀ A' c', At (ownB e k A L.length c (L.flatMap enc)) (ownB e k A' (L ++ M).length c' ((L ++ M).flatMap enc)) H (G A' c')) : OpS P n B (some (ownB e k A L.length c (L.flatMap enc))) l H o (fun A' c' => (d, .slice A' (L ++ M).length c') :: l) G := by
 cases Y with
 | some a => exact ow_appX E hk ht hinf hzs hby hs ho hd hn hx hy hm (fun h => (by cases h)) hLc hnews hl hat
 | none =>
  refine OpW.of_run (T := Option Addr × Nat) (φ := fun _ => True) (G := fun t => G t.1 t.2) hd hn (V := fun t => .slice t.1 (L ++ M).length t.2) (fun a1 w ha hw => ?_)
  have hM : M = [] := by
   obtain ⟨A', cap, e, -, -, h4⟩ := hnews w hw
   injection e with e1
   cases M with
   | nil => rfl
   | cons u M =>
    obtain ⟨b, q, e2, -⟩ := h4 (by simp)
    rw [← e1] at e2; cases e2
  subst hM
  have hat' := hat A c
  rw [List.append_nil] at hat'
  refine ⟨(A, c), w, trivial, ?_, ?_, ⟨rfl, rfl, rfl, Nat.le_refl _, fun _ _ _ => rfl⟩⟩
  ·subst hm
   rw [List.append_nil]
   exact run_append_op ho (ha.ev hx) (ha.ev hy) (run_append0' sl e o.type A L.length c c' k ht hs hLc)
  ·rw [← hat'.same]; exact hw
/-- An append of a whole slice. -/
theorem oAppX {α : Type} {k : Nat} {enc : α → List Value} (E : Enc k enc) {sl e : TypeId} {z : Value} {bytes d : Nat} {x y : Operand} {A Y : Option Addr} {c m c' : Nat} (L M : List α) {G : Option Addr → Nat → List It} [u : Und P sl (.slice e)] [i : Inf P e z k bytes] [s : Siz P e k]
  (hnews : ∀ w, Wd B H w → Arr k enc w (.slice Y m c') M) (hm : m = M.length) (hLc : L.length ≤ c) (ho : o.op = .call { callee := .builtin .append, args := #[x, y], argTypes := #[sl, sl] } := by rfl) (hk : 0 < k := by decide) (hzs : z.cells.size = k := by rfl) (hby : bytes ≤ 128 := by decide) (hd : o.dst = some d := by rfl) (hn : Nat.ble n d = false := by rfl)
  (hx : evl l x = some (.slice A L.length c) := by rfl) (hy : evl l y = some (.slice Y m c') := by rfl) (hl : L.length + M.length ≤ 1000000 := by omega)
  (hat : ∀ A' c', At (ownB e k A L.length c (L.flatMap enc)) (ownB e k A' (L ++ M).length c' ((L ++ M).flatMap enc)) H (G A' c') := by intro A c; repeat constructor) : OpS P n B (some (ownB e k A L.length c (L.flatMap enc))) l H o (fun A' c' => (d, .slice A' (L ++ M).length c') :: l) G :=
 ow_appY E hk u.h i.h hzs hby s.h ho hd hn hx hy hm hLc hnews hl hat
theorem ec_valE {f : FuncId} {g : Operand} {fs cs args : Array Value} {xs : List Operand} {ts : Array TypeId} {vs : List Value} (ho : o.op = .call { callee := .value g, args := xs.toArray, argTypes := ts }) (hg : evl l g = some (.func (.func f) fs cs)) (hx : evs l xs = some vs) (hf : ∀ args w, (callFunc f args).run P w = .ok (.enter f args) w) (he : (fs ++ vs.toArray ++ cs).toList = args.toList) : EC P n l o f args := by
 have : fs ++ vs.toArray ++ cs = args := Array.toList_inj.1 he
 rw [← this]
 exact ec_val ho hg hx hf
end
section
variable {P : Program} {n : Nat} {B : Bs} {Q : Exit → Act → World → Prop} {ops : Array Oper} {l : Sl} {H : List It} {ld lx : List Nat} {H0 Hx : List It} {fuel : Nat} {listed : Array Bool} {ord : List Nat}
theorem dPair {i j : Nat} (hr : Region.ready .any ops listed = [i, j]) (h1 : St1 P n B ops Q ld H0 lx Hx fuel listed l H i) (h2 : St1 P n B ops Q ld H0 lx Hx fuel listed l H j) : JD ord P n B ops Q ld H0 lx Hx (fuel + 1) listed l H := JA_pair hr h1 h2
end
section
variable {P : Program} {n : Nat} {B : Bs} {Q : Exit → Act → World → Prop} {l : Sl} {H : List It} {c : Code}
/-- Labels that only breaks and continues name. -/
theorem J_scope (h : J P n B c (Exit.noGoto Q) l H) (hr : B.r = none := by rfl) : J P n B (.scope c) Q l H := fun a w ha hw m => by
 have h1 := h a w ha hw m
 rw [hr] at h1 ⊢
 exact wpIn_wide.2 (wp_scope_straight (wp_mono (wpIn_wide.1 h1) (fun e a w hq => by cases e <;> exact hq)))
theorem JQ_ngR (h : JQ n B Q .ret l H) : JQ n B (Exit.noGoto Q) .ret l H := fun a w ha hw => h a w ha hw
end
end Go.Proofs.YtmcpnoailbmkkaaGreatDoor
/- The walk by live slots: two items as one; rows of bytes: strings.Builder's operations. Over any program. -/
namespace Go.Proofs.YtmcpnoailbmkkaaGreatDoor
open Go Go.RowKit Go.Proofs
section
variable {P : Program} {n : Nat} {B : Bs} {l : Sl} {H H' : List It} {o : Oper}
theorem OpW.of_val0 {m : Option It} {T : Type} {φ : T → Prop} {G : T → List It} (hd : o.dst = none) (h : ∀ a w, Fr n l a → Wd B H w → ∃ t w' v, φ t ∧ (execOp a.eval o).run P w = .ok (.value v) w' ∧ Wd B (G t) w' ∧ Rl m w w') : OpW P n B m l H o φ (fun _ => l) G := fun a w K Q ha hw k => by
 obtain ⟨t, w', v, h1, h2, h3, h4⟩ := h a w ha hw
 unfold Oper.wp
 rw [h2]
 show K (a.put o.dst v) w'
 exact k t _ _ h1 (ha.putN o hd _) h3 h4
/-- A store into an element of a row of our own. -/
theorem oStE {α : Type} {k : Nat} {enc : α → List Value} (E : Enc k enc) {t ty : TypeId} {x y : Operand} {b j i m c kk : Nat} {L : List α} {v : Value} (cs : List Value) (r : α) [z : Siz P t kk] (hj : j < L.length) (ho : o.op = .store t x y := by rfl) (hd : o.dst = none := by rfl) (hx : evl l x = some (.pointer (some ⟨b, 0 + j * k + i, none⟩)) := by rfl) (hy : evl l y = some v := by rfl) (hcs : v.cells = cs.toArray := by rfl) (hkk : cs.length = kk := by rfl) (h1 : cs.all (·.oneCell') = true := by rfl)
  (hat : At (ownB ty k (some ⟨b, 0, none⟩) m c (L.flatMap enc)) (ownB ty k (some ⟨b, 0, none⟩) m c ((L.set j r).flatMap enc)) H H' := by repeat constructor) (hi : i + cs.length ≤ k := by decide) (hr : enc r = (enc (L[j]'hj)).take i ++ cs ++ (enc (L[j]'hj)).drop (i + cs.length) := by rfl) :
  OpW P n B (some (ownB ty k (some ⟨b, 0, none⟩) m c (L.flatMap enc))) l H o (fun _ : Unit => True) (fun _ => l) (fun _ => H') := ow_storeE E r ho hd hx hy hcs (by rw [hkk]; exact z.h) h1 hat hj hi hr
theorem zero_cells {z : Value} {zs : List Value} (hz : z.cells = zs.toArray) (h0 : 0 < zs.length) (h1 : zs.all (·.oneCell') = true) (m : Nat) : (Builtin.zeroCells z.cells m).toList.length = m * zs.length ∧ ∀ u ∈ (Builtin.zeroCells z.cells m).toList, u.oneCell' = true := by
 rw [hz]
 refine ⟨by simp [Builtin.zeroCells], fun u hu => ?_⟩
 simp only [Builtin.zeroCells, Array.toList_map, Array.toList_range, List.mem_map, List.mem_range, List.size_toArray] at hu
 obtain ⟨i, -, rfl⟩ := hu
 have hlt : i % zs.length < zs.length := Nat.mod_lt _ h0
 have e : zs.toArray[i % zs.length]! = zs[i % zs.length]'hlt := by rw [getElem!_pos zs.toArray _ (by simpa using hlt)]; simp
 rw [e]
 exact List.all_eq_true.1 h1 _ (List.getElem_mem _)
/-- Truth values compared. -/
theorem pEqlB {t ty : TypeId} {x y : Operand} {a b : Bool} [u : Und P t .bool] (ho : o.op = .binOp .eql t x y ty) (hx : evl l x = some (.bool a)) (hy : evl l y = some (.bool b)) : RP P n l o (.bool (decide (a = b))) := rp2 hx hy (fun ρ h1 h2 w => by
 have e : decide (a = b) = (a == b) := by cases a <;> cases b <;> rfl
 rw [e]
 unfold execOp
 simp only [ho, h1, h2]
 have hu := u.h
 go_simp)
/-- A slice held against nil. -/
theorem pSlNil {t e ty : TypeId} {x : Operand} {A : Option Addr} {m c : Nat} [u : Und P t (.slice e)] (ho : o.op = .binOp .eql t x (.const (.slice none 0 0)) ty) (hx : evl l x = some (.slice A m c)) : RP P n l o (.bool A.isNone) := rp2 hx (y := .const (.slice none 0 0)) rfl (fun ρ h1 h2 w => by
 have hr := Lib.run_eql_slice_nil (P := P) w t e A m c 0 0 u.h
 unfold execOp
 simp [ho, h1, h2, eqGuard, hr])
/-- clear(s[i:]) of a row of our own, of which i elements are looked at from now on. -/
theorem oClr {α : Type} {k : Nat} {enc : α → List Value} (E : Enc k enc) {t e : TypeId} {x : Operand} {g c i m : Nat} (L : List α) {z : Value} (zs : List Value) [u : Und P t (.slice e)] [zr : Zer P e z] (hm0 : m = L.length) (hi : i ≤ L.length) (ho : o.op = .call { callee := .builtin .clear, args := #[x], argTypes := #[t] } := by rfl) (hd : o.dst = none := by rfl)
  (hx : evl l x = some (.slice (if c = i then some ⟨g, 0, none⟩ else (some ⟨g, 0, none⟩ : Option Addr).map (·.add (i * k))) (m - i) (c - i)) := by rfl) (hz : z.cells = zs.toArray := by rfl) (hzk : zs.length = k := by rfl) (hk : 0 < k := by decide) (h1 : zs.all (·.oneCell') = true := by rfl)
  (hat : At (ownB e k (some ⟨g, 0, none⟩) m c (L.flatMap enc)) (ownB e k (some ⟨g, 0, none⟩) i c ((L.take i).flatMap enc)) H H' := by repeat constructor) :
  OpW P n B (some (ownB e k (some ⟨g, 0, none⟩) m c (L.flatMap enc))) l H o (fun _ : Unit => True) (fun _ => l) (fun _ => H') := by
 subst hm0
 exact
 OpW.of_val0 hd (fun a w ha hw => by
  have hown : w.ownsRow 0 e k (.slice (some ⟨g, 0, none⟩) L.length c) L.length (L.flatMap enc) := (hw.ok _ hat.mem).1
  obtain ⟨q1, q2⟩ := hown
  rcases q2 with ⟨e0, -⟩ | ⟨g', cap, cur, e0, q3, q4, q5, q6, q7, q8⟩
  ·cases e0
  injection e0 with e1 e2 e3
  injection e1 with e1
  injection e1 with e1 _ _
  subst e1 e3
  have hlen := flat_len E L
  have hic : i * k ≤ L.length * k := Nat.mul_le_mul_right k hi
  have hnc : L.length * k ≤ c * k := Nat.mul_le_mul_right k q5
  have htk : ∀ cur' : Array Value, cur'.size = cur.size → (∀ q, q < i * k → cur'[q]? = cur[q]?) → cur'.toList.take (i * k) = (L.take i).flatMap enc := by
   intro cur' hs hc
   refine List.ext_getElem? (fun q => ?_)
   have hl2 := flat_len E (L.take i)
   rw [List.length_take, Nat.min_eq_left hi] at hl2
   rw [List.getElem?_take]
   by_cases hq : q < i * k
   ·rw [if_pos hq, Array.getElem?_toList, hc q hq]
    have h2 : (L.flatMap enc)[q]? = cur[q]? := by rw [← q8, List.getElem?_take, if_pos (by omega), Array.getElem?_toList]
    rw [← h2]
    conv => lhs; rw [← List.take_append_drop i L, List.flatMap_append]
    rw [List.getElem?_append_left (by omega)]
   ·rw [if_neg hq, List.getElem?_eq_none (by omega)]
  have hinv : ∀ W, (execOp a.eval o).run P W = ((Builtin.clear_ #[t] o.type #[.slice (if c = i then some ⟨g, 0, none⟩ else (some ⟨g, 0, none⟩ : Option Addr).map (·.add (i * k))) (L.length - i) (c - i)]).run P W).andThen fun v w' => .ok (.value v) w' := fun W => by
   unfold execOp
   simp only [ho, resolve, invoke, builtin, Sem.run_bind, Sem.run_pure, Result.andThen_ok, List.map_toArray, List.map_cons, List.map_nil, ha.ev hx]
  by_cases h0 : L.length - i = 0
  ·have hr : (Builtin.clear_ #[t] o.type #[.slice (if c = i then some ⟨g, 0, none⟩ else (some ⟨g, 0, none⟩ : Option Addr).map (·.add (i * k))) (L.length - i) (c - i)]).run P w = .ok (.tuple #[]) w := by
    rw [h0]
    generalize (if c = i then some ⟨g, 0, none⟩ else (some ⟨g, 0, none⟩ : Option Addr).map (·.add (i * k))) = Y
    cases Y <;> simp [Builtin.clear_, run_underlying u.h]
   refine ⟨(), w, .tuple #[], trivial, by rw [hinv, hr]; rfl, hw.turn hat (fun h => h) ⟨?_, .inr ⟨g, c, cur, rfl, Nat.zero_le _, q4, by omega, q6, q7, htk cur rfl (fun _ _ => rfl)⟩⟩ (fun b hb => hb), ⟨rfl, rfl, rfl, Nat.le_refl _, fun _ _ _ => rfl⟩⟩
   rw [flat_len E, List.length_take, Nat.min_eq_left hi]
  ·have hci : ¬ c = i := by omega
   obtain ⟨z1, z2⟩ := zero_cells hz (by omega) h1 (L.length - i)
   rw [hzk] at z1
   have hmul : i * k + (L.length - i) * k = L.length * k := by rw [← Nat.add_mul]; congr 1; omega
   have hst := run_storeCells_at (P := P) g (i * k) e (Builtin.zeroCells z.cells (L.length - i)).toList 0 cur w q4 (by rw [q7]; omega) z2
   rw [Nat.add_zero] at hst
   obtain ⟨m, hm⟩ : ∃ m, L.length - i = m + 1 := ⟨L.length - i - 1, by omega⟩
   have hr : (Builtin.clear_ #[t] o.type #[.slice (if c = i then some ⟨g, 0, none⟩ else (some ⟨g, 0, none⟩ : Option Addr).map (·.add (i * k))) (L.length - i) (c - i)]).run P w = .ok (.tuple #[]) (w.setRow g (cur.toList.take (i * k) ++ (Builtin.zeroCells z.cells (L.length - i)).toList ++ cur.toList.drop (i * k + (Builtin.zeroCells z.cells (L.length - i)).toList.length)).toArray) := by
    rw [if_neg hci]
    show (Builtin.clear_ #[t] o.type #[.slice (some (Addr.add _ _)) (L.length - i) (c - i)]).run P w = _
    rw [Addr.add_mid, Nat.zero_add, hm]
    rw [hm] at hst
    simp [Builtin.clear_, run_underlying u.h, zr.h, hst]
   have hch : Chg (ownB e k (some ⟨g, 0, none⟩) L.length c (L.flatMap enc)) w (w.setRow g (cur.toList.take (i * k) ++ (Builtin.zeroCells z.cells (L.length - i)).toList ++ cur.toList.drop (i * k + (Builtin.zeroCells z.cells (L.length - i)).toList.length)).toArray) := ⟨rfl, rfl, rfl, by simp [World.setRow], fun k _ hk => setRow_other w g k _ (fun e => hk (by subst e; rfl))⟩
   refine ⟨(), _, .tuple #[], trivial, by rw [hinv, hr]; rfl, hw.chg hat rfl rfl hch ⟨?_, .inr ⟨g, c, _, rfl, Nat.zero_le _, setRow_heap w g _ _ e _ q4, by omega, q6, ?_, htk _ ?_ ?_⟩⟩ (fun b hb => ⟨.inl hb, ?_⟩), hch⟩
   ·rw [flat_len E, List.length_take, Nat.min_eq_left hi]
   ·simp only [List.size_toArray, List.length_append, List.length_take, List.length_drop, z1, Array.length_toList]; omega
   ·simp only [List.size_toArray, List.length_append, List.length_take, List.length_drop, z1, Array.length_toList]; omega
   ·intro q hq
    rw [List.getElem?_toArray, List.append_assoc, List.getElem?_append_left (by rw [List.length_take, Array.length_toList]; omega), List.getElem?_take, if_pos hq, Array.getElem?_toList]
   ·have hb' : (Value.slice (some ⟨g, 0, none⟩) i c).ownBlock = some b := hb
    injection hb' with hb'
    subst hb'
    have := (Array.getElem?_eq_some_iff.1 q4).1
    simpa [World.setRow] using this)
/-! Rows of bytes. -/
theorem ba_sz (s : ByteArray) : s.data.toList.length = s.size := by unfold ByteArray.size; rw [Array.length_toList]
/-- A row of bytes of our own. -/
abbrev bytB (e : TypeId) (A : Option Addr) (c : Nat) (s : ByteArray) : It := ownB e 1 A s.size c (Lib.strCells s)
theorem strCells_app (s t : ByteArray) : Lib.strCells (s ++ t) = Lib.strCells s ++ Lib.strCells t := by
 unfold Lib.strCells; rw [ByteArray.data_append, Array.toList_append, List.map_append]
theorem run_appStr {w : World} {base : Nat} {t u ty e : TypeId} (ht : P.underlying t = some (.slice e)) (hu : P.underlying u = some .string) (hinf : (P.info? e).map (fun i => (i.zero, i.size, i.bytes)) = some (some (.int .u8 0), 1, 1)) {A : Option Addr} {m c : Nat} {xs : List Value} (hown : w.ownsRow base e 1 (.slice A m c) m xs) (s : ByteArray) (hl : m + s.size ≤ 1000000000) (hbase : base ≤ w.heap.size) :
  ∃ A' c' w', (Builtin.append_ #[t, u] ty #[.slice A m c, .string s]).run P w = .ok (.slice A' (m + s.size) c') w' ∧ w'.ownsRow 0 e 1 (.slice A' (m + s.size) c') (m + s.size) (xs ++ Lib.strCells s) ∧ w.grownBy w' (Value.slice A m c).ownBlock ∧ ((Value.slice A' (m + s.size) c').ownBlock = (Value.slice A m c).ownBlock ∨ ∀ b, (Value.slice A' (m + s.size) c').ownBlock = some b → w.heap.size ≤ b) := by
 obtain ⟨i, hi, hz, hs1, hb1⟩ := info_parts hinf
 have weak : ∀ {v' : Value} {n : Nat} {ys : List Value} {w' : World} {b0 : Nat}, w'.ownsRow b0 e 1 v' n ys → w'.ownsRow 0 e 1 v' n ys := fun h => ⟨h.1, h.2.imp_right (fun ⟨g, cap, cur, h1, _, h3⟩ => ⟨g, cap, cur, h1, Nat.zero_le _, h3⟩)⟩
 have form : ∀ {v' : Value} {n : Nat} {ys : List Value} {w' : World} {b0 : Nat}, w'.ownsRow b0 e 1 v' n ys → ∃ A' c', v' = .slice A' n c' := fun h => by
  rcases h.2 with ⟨rfl, rfl⟩ | ⟨g, cap, cur, rfl, -⟩
  ·exact ⟨_, _, rfl⟩
  ·exact ⟨_, _, rfl⟩
 rcases hown.2 with ⟨e1, e2⟩ | ⟨g, cap, cur, e1, hbg, hg, hnc, hcm, hcs, htake⟩
 ·obtain ⟨v', w', h1, h2, h3, h4⟩ := Lib.run_append_own_string (P := P) (ty := ty) w w.heap.size t u e i ht hu hi hz hs1 hb1 (.slice A m c) m xs ⟨hown.1, .inl ⟨e1, e2⟩⟩ s (by unfold maxLen; omega) (by omega) (Nat.le_refl _)
  obtain ⟨A', c', rfl⟩ := form h2
  exact ⟨A', c', w', h1, weak h2, h3, .inr (fun b hb => by
   rcases h2.2 with ⟨e3, -⟩ | ⟨g, cap, cur, e3, h5, -⟩
   ·rw [e3] at hb; cases hb
   ·rw [e3] at hb; injection hb with hb; subst hb; exact h5)⟩
 ·injection e1 with e1 e2 e3
  subst e1 e3
  obtain ⟨v', w', h1, h2, h3, h4⟩ := Lib.run_append_own_string (P := P) (ty := ty) w base t u e i ht hu hi hz hs1 hb1 (.slice (some ⟨g, 0, none⟩) m c) m xs hown s (by unfold maxLen; omega) (by omega) hbase
  obtain ⟨A', c', rfl⟩ := form h2
  refine ⟨A', c', w', h1, weak h2, h3, ?_⟩
  by_cases hroom : m + s.size ≤ c
  ·have hr := Lib.run_append_room_string (P := P) (ty := ty) w t u e i ht hu hi hs1 g m c cur hg s hroom (by omega)
   rw [h1] at hr
   injection hr with hr
   injection hr with hr
   rw [hr]; exact .inl rfl
  ·have hxl : xs.length = m := by simpa using hown.1
   have holds : ∀ j u, xs[j]? = some u → w.cell? ((⟨g, 0, none⟩ : Addr).add j) = some u := hown.cells (g := g) rfl
   have hr := Lib.run_append_grow_string (P := P) (ty := ty) w t u e i (.int .u8 0) ht hu hi hz ⟨g, 0, none⟩ m c xs (by rw [hs1]; simpa using hxl) holds s (by omega) (by omega) (by rw [hb1]; exact growslice_fits (by omega) (by unfold maxLen at hcm; omega))
   rw [h1] at hr
   injection hr with hr
   injection hr with hr
   rw [hr]
   exact .inr (fun b hb => by injection hb with hb; exact Nat.le_of_eq hb)
/-- append(s, t...) of a string's bytes. -/
theorem oAppStr {sl st e : TypeId} {d : Nat} {x y : Operand} {A : Option Addr} {c : Nat} (s t : ByteArray) {G : Option Addr → Nat → List It} [u : Und P sl (.slice e)] [us : Und P st .string] [i : Inf P e (.int .u8 0) 1 1] (hl : s.size + t.size ≤ 1000000000) (ho : o.op = .call { callee := .builtin .append, args := #[x, y], argTypes := #[sl, st] } := by rfl) (hd : o.dst = some d := by rfl) (hn : Nat.ble n d = false := by rfl)
  (hx : evl l x = some (.slice A s.size c) := by rfl) (hy : evl l y = some (.string t) := by rfl) (hat : ∀ A' c', At (bytB e A c s) (bytB e A' c' (s ++ t)) H (G A' c') := by intro A c; repeat constructor) : OpS P n B (some (bytB e A c s)) l H o (fun A' c' => (d, .slice A' (s ++ t).size c') :: l) G :=
 OpW.of_run (T := Option Addr × Nat) (φ := fun _ => True) (G := fun t => G t.1 t.2) hd hn (V := fun q => .slice q.1 (s ++ t).size q.2) (fun a1 w ha hw => by
  have hown : w.ownsRow 0 e 1 (.slice A s.size c) s.size (Lib.strCells s) := (hw.ok _ (hat none 0).mem).1
  obtain ⟨A', c', w', h1, h2, h3, h4⟩ := run_appStr (ty := o.type) u.h us.h i.h hown t hl (Nat.zero_le _)
  rw [← ByteArray.size_append] at h1 h2 h4
  rw [← strCells_app] at h2
  have hc : Chg (bytB e A c s) w w' := ⟨h3.os, h3.tape, h3.output, h3.size, fun b hb hnb => h3.block b hb (fun e => hnb e.symm)⟩
  refine ⟨(A', c'), w', trivial, ?_, hw.chg (hat A' c') rfl rfl hc h2 (fun b hb => ?_), hc⟩
  ·unfold execOp
   simp only [ho, resolve, invoke, builtin, Sem.run_bind, Sem.run_pure, Result.andThen_ok, List.map_toArray, List.map_cons, List.map_nil, ha.ev hx, ha.ev hy, h1]
  ·have hb' : (Value.slice A' (s ++ t).size c').ownBlock = some b := hb
   refine ⟨?_, (World.ownsRow.lt h2 b hb').2⟩
   rcases h4 with h4 | h4
   ·rw [hb'] at h4; exact .inl h4.symm
   ·exact .inr (h4 b hb'))
/-- The data of a slice. -/
theorem pSliceData {t : TypeId} {x : Operand} {A : Option Addr} {m c : Nat} (hc : A = none ∨ c ≠ 0) (ho : o.op = .call { callee := .builtin .unsafeSliceData, args := #[x], argTypes := #[t] } := by rfl) (hx : evl l x = some (.slice A m c) := by rfl) : RP P n l o (.pointer A) := rp1 hx (fun ρ h1 w => by
 have hr : (Builtin.unsafeSliceData_ #[t] o.type #[.slice A m c]).run P w = .ok (.pointer A) w := by
  cases A with
  | none => exact Lib.run_unsafeSliceData_nil w _ _ _ _
  | some a => exact Lib.run_unsafeSliceData_row w _ _ _ _ _ (hc.resolve_left (by simp))
 unfold execOp
 simp only [ho, resolve, invoke, builtin, Sem.run_bind, Sem.run_pure, Result.andThen_ok, List.map_toArray, List.map_cons, List.map_nil, h1, hr])
/-- A string over a row of bytes of our own, which nobody writes any more. -/
theorem oUStr {pt it e : TypeId} {d : Nat} {x y : Operand} {A : Option Addr} {c : Nat} (s : ByteArray) {H1 : List It} [u : Und P pt (.pointer e)] (hc1 : P.cellsOf e = 1) (ho : o.op = .call { callee := .builtin .unsafeString, args := #[x, y], argTypes := #[pt, it] } := by rfl) (hd : o.dst = some d := by rfl) (hn : Nat.ble n d = false := by rfl) (hx : evl l x = some (.pointer A) := by rfl) (hy : evl l y = some (.int .i64 (s.size : Nat)) := by rfl) (hs : A = none → s.size = 0)
  (rm : Rm (bytB e A c s) H H1 := by repeat constructor) : OpW P n B (some (bytB e A c s)) l H o (fun _ : Unit => True) (fun _ => (d, .string s) :: l) (fun _ => H1) :=
 OpW.of_run hd hn (V := fun _ => .string s) (fun a1 w ha hw => by
  have hown : w.ownsRow 0 e 1 (.slice A s.size c) s.size (Lib.strCells s) := (hw.ok _ rm.mem).1
  have hrun : ∀ w2 v, (Builtin.unsafeString_ #[pt, it] o.type #[.pointer A, .int .i64 (s.size : Nat)]).run P w = .ok v w2 → (execOp a1.eval o).run P w = .ok (.value v) w2 := fun w2 v hr => by
   unfold execOp
   simp only [ho, resolve, invoke, builtin, Sem.run_bind, Sem.run_pure, Result.andThen_ok, List.map_toArray, List.map_cons, List.map_nil, ha.ev hx, ha.ev hy, hr]
  have hdrop : Wd B H1 w := ⟨hw.os, hw.tape, hw.output, hw.size, hw.block, fun C hC => hw.ok C (rm.sub C hC), (rm.sep (R := sepR) sepR_symm hw.sep).1⟩
  by_cases h0 : s.size = 0
  ·have hse : s = ByteArray.empty := by
    rcases s with ⟨a⟩
    have : a.size = 0 := h0
    rw [Array.size_eq_zero_iff] at this; subst this; rfl
   refine ⟨(), w, trivial, hrun w _ ?_, hdrop, ⟨rfl, rfl, rfl, Nat.le_refl _, fun _ _ _ => rfl⟩⟩
   subst hse
   cases A <;> rfl
  ·obtain ⟨a, rfl⟩ : ∃ a, A = some a := by
    cases A with
    | none => exact absurd (hs rfl) h0
    | some a => exact ⟨a, rfl⟩
   rcases hown.2 with ⟨e1, -⟩ | ⟨g, cap, cur, e1, -, hg, hnc, hcm, hcs, htake⟩
   ·cases e1
   injection e1 with e1 e2 e3
   injection e1 with e1
   subst e1 e3
   have hl := ba_sz s
   have hcell : ∀ j x, s.data.toList[j]? = some x → w.cell? ((⟨g, 0, none⟩ : Addr).add j) = some (.int .u8 x.toNat) := fun j x hx => hown.cells (g := g) rfl j _ (by unfold Lib.strCells; rw [List.getElem?_map, hx]; rfl)
   have hr := Lib.run_unsafeString_row (P := P) w pt it o.type e u.h hc1 g cur.size (by simp [World.shape?, hg]) s.data.toList (by intro e; rw [e] at hl; simp at hl; omega) (by omega) (by unfold maxLen at hcm; omega) hcell
   rw [hl] at hr
   have hfz : ∀ b, b ≠ g → (w.freeze ⟨g, 0, none⟩ s.size).heap[b]? = w.heap[b]? := fun b hb => by
    unfold World.freeze; rw [if_neg h0]
    show (w.heap.modify g _)[b]? = _
    rw [Array.getElem?_modify, if_neg (fun e => hb e.symm)]
   have hch : Chg (bytB e (some ⟨g, 0, none⟩) c s) w (w.freeze ⟨g, 0, none⟩ s.size) := by
    refine ⟨?_, ?_, ?_, ?_, fun b _ hnb => hfz b (fun e => hnb (by subst e; rfl))⟩ <;> unfold World.freeze <;> rw [if_neg h0]
    show w.heap.size ≤ (w.heap.modify g _).size
    rw [Array.size_modify]; exact Nat.le_refl _
   refine ⟨(), _, trivial, hrun _ _ (by simpa using hr), ?_, hch⟩
   have hsep := (rm.sep (R := sepR) sepR_symm hw.sep)
   refine ⟨hch.os.trans hw.os, hch.tape.trans hw.tape, hch.output.trans hw.output, Nat.le_trans hw.size hch.size, fun b h1 h2 => ?_, fun C hC => ?_, hsep.1⟩
   ·rw [hfz b (fun e => ?_)]; exact hw.block b h1 h2
    subst e
    rcases ((hw.ok _ rm.mem).2 b rfl).1 with h | h | h
    ·cases h
    ·exact h2 h
    ·omega
   ·have hC' := hw.ok C (rm.sub C hC)
    have hne : ∀ b, C.foot b → b ≠ g := fun b hb e => by
     subst e
     rcases hsep.2 C hC with ⟨h, -⟩ | h
     ·cases h
     ·exact h b rfl hb
    exact ⟨C.st _ _ (fun b hb => hfz b (hne b hb)) hC'.1, fun b hb => ⟨(hC'.2 b hb).1, Nat.lt_of_lt_of_le (hC'.2 b hb).2 hch.size⟩⟩)
end
end Go.Proofs.YtmcpnoailbmkkaaGreatDoor
/- Parameters: what their reading gives, and that they are read again as they were. Over any program. -/
namespace Go.Proofs.YtmcpnoailbmkkaaGreatDoor
open Go Go.ChangeShapes Go.WideShapes Go.ChangeAt Go.RowKit Go.Deep
section
variable {P : Program} {H : Type} {enc : TypeId × Value → H}
/-- What an element's reading gives, by its cells. -/
def ElC (P : Program) (enc : TypeId × Value → H) (e : TypeId) (R : World → List Value → Prop) : Prop :=
 ∀ (W : World) (n : Nat) (cs : List Value) (y : DataW H × List MemPlace), DataW.trod enc P W 0 (fun _ => true) true n e cs = some y → R W cs ∧ ∀ W' : World, Below W.heap.size W W' → ∀ sp : Nat → Bool, (∀ q ∈ y.2, sp q.block = true) → ∃ m, DataW.trod enc P W' 0 sp true m e cs = some y
theorem elInt {e : TypeId} {k : IntKind} (ht : P.underlying e = some (.int k)) : ElC P enc e (fun _ cs => ∃ x, cs = [.int k x] ∧ (Lit.int k x).wf = true) := fun W n cs y h => by
 obtain ⟨x, rfl, rfl, w⟩ := DataW.trod_int ht h
 exact ⟨⟨x, rfl, w⟩, fun W' _ sp _ => ⟨1, by simp [DataW.trod, ht, w]⟩⟩
theorem elBool {e : TypeId} (ht : P.underlying e = some .bool) : ElC P enc e (fun _ cs => ∃ x, cs = [.bool x]) := fun W n cs y h => by
 obtain ⟨x, rfl, rfl⟩ := DataW.trod_bool ht h
 exact ⟨⟨x, rfl⟩, fun W' _ sp _ => ⟨1, by simp [DataW.trod, ht]⟩⟩
theorem ElC.imp {e : TypeId} {R R' : World → List Value → Prop} (h : ElC P enc e R) (hr : ∀ W cs, R W cs → R' W cs) : ElC P enc e R' := fun W n cs y hy => ⟨hr _ _ (h W n cs y hy).1, (h W n cs y hy).2⟩
theorem cells_below {W W' : World} (hb : Below W.heap.size W W') {b n : Nat} {a : Addr} {cs : List Value} (h : W.cells? b a n = some cs) (ha : a.block < W.heap.size) : W'.cells? b a n = some cs := by
 have e : ∀ i, W'.cell? (a.add i) = W.cell? (a.add i) := fun i => by
  have hbk : (a.add i).block = a.block := by unfold Addr.add; split <;> rfl
  exact World.cell?_of_block (by rw [hbk]; exact hb.block _ ha)
 unfold World.cells? at h ⊢
 simp only [e]
 exact h
theorem cell_spot {W : World} {a : Addr} {v : Value} (h : W.cell? a = some v) : a.spot = none ∧ a.block < W.heap.size := by
 unfold World.cell? at h
 split at h
 ·rename_i c t fz hh
  split at h
  ·cases h
  ·rename_i hs
   exact ⟨by simpa using hs, (Array.getElem?_eq_some_iff.1 hh).1⟩
 ·cases h
theorem add_mod (a : Addr) (i j : Nat) : (a.add i).add j = a.add (i + j) := by
 unfold Addr.add
 by_cases h1 : i = 0
 ·by_cases h2 : j = 0 <;> simp [h1, h2]
 ·by_cases h2 : j = 0
  ·simp [h1, h2]
  ·simp [h1, h2, Nat.add_assoc]
/-- A slice whose elements are of k cells. -/
theorem elRow {α : Type} {t e k : Nat} {ec : α → List Value} {wf : World → α → Prop} (ht : P.underlying t = some (.slice e)) (hsz : P.cellsOf e = k) (E : Enc k ec) (h0k : 0 < k) (he : ElC P enc e (fun W cs => ∃ x, cs = ec x ∧ wf W x)) :
  ElC P enc t (fun W cs => ∃ p : Dv α, cs = [p.v] ∧ Arr k ec W p.v p.l ∧ p.n = p.l.length ∧ ∀ x ∈ p.l, wf W x) := fun W n cs y h => by
 rcases open_slice ht h with ⟨rfl, rfl⟩ | ⟨a, len, cap, m, n', D, Pl, rfl, hb, hl, hm, hmm, rfl, hi⟩
 ·exact ⟨⟨⟨none, 0, 0, []⟩, rfl, Arr.nil W, rfl, fun _ h => by cases h⟩, fun W' _ sp _ => ⟨1, by simp [DataW.trod, ht]⟩⟩
 ·simp only [if_true] at hmm
  subst hmm
  rw [hsz] at hi
  have each : ∀ i, i < m → ∃ cs', ∃ s : α, W.cells? 0 (a.add (i * k)) k = some cs' ∧ cs' = ec s ∧ wf W s ∧ DataW.trod enc P W 0 (fun _ => true) true n' e cs' = some (D i, Pl i) := by
   intro i hic
   obtain ⟨cs', h3, h4⟩ := hi i hic
   obtain ⟨⟨s, h5, h6⟩, -⟩ := he W n' cs' _ h4
   exact ⟨cs', s, h3, h5, h6, h4⟩
  have each2 : ∀ i, i < m → ∃ s : α, W.cells? 0 (a.add (i * k)) k = some (ec s) ∧ wf W s ∧ DataW.trod enc P W 0 (fun _ => true) true n' e (ec s) = some (D i, Pl i) := fun i hic => by
   obtain ⟨cs', s, h3, rfl, h6, h4⟩ := each i hic
   exact ⟨s, h3, h6, h4⟩
  clear each
  have first : ∀ i, i < m → ∃ v, W.cell? (a.add (i * k)) = some v := by
   intro i hi
   obtain ⟨s, h3, -⟩ := each2 i hi
   have hc := (World.cells?_some h3).2.2 0 h0k
   rw [List.getElem?_eq_getElem (by rw [E.1]; exact h0k)] at hc
   exact ⟨_, by simpa [Addr.add] using hc⟩
  have re : ∀ W' : World, Below W.heap.size W W' → ∀ sp : Nat → Bool, (∀ q ∈ MemPlace.row a (m * P.cellsOf e) ++ (List.range m).flatMap Pl, sp q.block = true) → ∃ f, DataW.trod enc P W' 0 sp true f t [.slice (some a) len m] = some (.slice ((List.range len).map D) ((List.range (m - len)).map fun j => D (len + j)), MemPlace.row a (m * P.cellsOf e) ++ (List.range m).flatMap Pl) := by
   intro W' hb' sp hsp
   rcases Nat.eq_zero_or_pos m with h0 | h0
   ·subst h0
    obtain rfl : len = 0 := by omega
    cases hs : sp a.block with
    | true => exact shut_slice_whole_cells (enc := enc) (w := W') (held := true) (base := 0) (P := P) (a := a) (len := 0) (cap := 0) ht (Nat.zero_le _) (Nat.le_refl _) (Nat.zero_le _) hs D Pl (fun i hi => absurd hi (Nat.not_lt_zero _))
    | false =>
     have := shut_slice_cells (enc := enc) (w := W') (held := true) (base := 0) (P := P) (a := a) (len := 0) (cap := 0) ht (Nat.zero_le _) (Nat.le_refl _) (Nat.zero_le _) hs D Pl (fun i hi => absurd hi (Nat.not_lt_zero _))
     simpa using this
   ·obtain ⟨v0, c0⟩ := first 0 h0
    have hblk := (cell_spot (by simpa [Addr.add] using c0)).2
    have hs : sp a.block = true := hsp (.cell a.block (a.off + 0)) (by
     unfold MemPlace.row
     simp only [List.mem_append, List.mem_map, List.mem_range]
     exact .inl ⟨0, by rw [hsz]; exact Nat.mul_pos h0 h0k, rfl⟩)
    refine shut_slice_whole_cells (enc := enc) (w := W') (held := true) (base := 0) (P := P) (a := a) (len := len) (cap := m) ht (Nat.zero_le _) hl hm hs D Pl (fun i hi => ?_)
    obtain ⟨s, h3, -, h4⟩ := each2 i hi
    obtain ⟨-, hre⟩ := he W n' _ _ h4
    obtain ⟨f, hf⟩ := hre W' hb' sp (fun q hq => hsp q (List.mem_append_right _ (List.mem_flatMap.2 ⟨i, List.mem_range.2 hi, hq⟩)))
    refine ⟨ec s, f, ?_, hf⟩
    rw [hsz]
    refine cells_below hb' h3 ?_
    have : (a.add (i * k)).block = a.block := by unfold Addr.add; split <;> rfl
    rw [this]; exact hblk
  refine ⟨?_, re⟩
  have each3 : ∀ i, i < m → ∃ s : α, W.cells? 0 (a.add (i * k)) k = some (ec s) ∧ wf W s := fun i hic => by
   obtain ⟨s, h3, h4, -⟩ := each2 i hic
   exact ⟨s, h3, h4⟩
  rcases Nat.eq_zero_or_pos len with h0 | h0
  ·subst h0
   exact ⟨⟨some a, 0, m, []⟩, rfl, ⟨some a, m, rfl, Nat.zero_le _, ⟨Nat.zero_le _, hm⟩, fun h => absurd rfl h⟩, rfl, fun _ h => by cases h⟩
  ·obtain ⟨s0, -⟩ := each3 0 (by omega)
   haveI : Inhabited α := ⟨s0⟩
   obtain ⟨S, hS⟩ := choose_lt each3
   obtain ⟨v0, c0⟩ := first 0 (by omega)
   have hsp := (cell_spot (by simpa [Addr.add] using c0)).1
   obtain ⟨b, o, sp⟩ := a
   simp only at hsp
   subst hsp
   refine ⟨⟨some ⟨b, o, none⟩, len, m, (List.range len).map S⟩, rfl, ⟨some ⟨b, o, none⟩, m, by simp, by simpa using hl, ⟨by simp only [List.length_map, List.length_range]; unfold maxLen at hm; omega, hm⟩, fun hne => ⟨b, o, rfl, fun j hj i hi => ?_⟩⟩, by simp, fun x hx => ?_⟩
   ·have hj' : j < len := by simpa using hj
    have hc := (World.cells?_some (hS j (by omega)).1).2.2
    have e : ((List.range len).map S)[j]'hj = S j := by simp
    rw [e, ← hc i hi, add_mod]
    unfold Addr.add
    by_cases h0 : j * k + i = 0
    ·rw [if_pos h0]; have h1 : j * k = 0 := by omega
     have : i = 0 := by omega
     subst this; rw [h1]; rfl
    ·rw [if_neg h0, Nat.add_assoc]
   ·obtain ⟨i, hi, rfl⟩ := List.mem_map.1 hx
    exact (hS i (by have := List.mem_range.1 hi; omega)).2
/-- A struct, by its fields. -/
theorem elStruct {t : TypeId} {fs : Array Field} {Rs : Nat → World → List Value → Prop} (ht : P.underlying t = some (.struct fs)) (hf : ∀ (i : Nat) (f : Field), fs[i]? = some f → ElC P enc f.type (Rs i)) :
  ElC P enc t (fun W cs => cs.length = P.cellsOf t ∧ ∀ (i : Nat) (f : Field), fs[i]? = some f → Rs i W ((cs.drop f.offset).take (P.cellsOf f.type))) := fun W n cs y h => by
 obtain ⟨xs, m, -, rfl, hl, hxl, hx⟩ := DataW.trod_struct ht h
 have hxi : ∀ (i : Nat) (f : Field), fs[i]? = some f → ∃ yi, xs[i]? = some yi := fun i f hi => by
  have hlt : i < fs.size := (Array.getElem?_eq_some_iff.1 hi).1
  exact ⟨_, List.getElem?_eq_getElem (by omega)⟩
 refine ⟨⟨hl, fun i f hi => ?_⟩, fun W' hb sp hsp => ?_⟩
 ·obtain ⟨yi, hyi⟩ := hxi i f hi
  exact (hf i f hi W m _ yi (by rw [hx i f hi, hyi])).1
 ·have hre : ∀ i, i < fs.size → ∃ q, ∀ f, fs[i]? = some f → DataW.trod enc P W' 0 sp true q f.type ((cs.drop f.offset).take (P.cellsOf f.type)) = xs[i]? := fun i hi => by
   have hfi : fs[i]? = some (fs[i]'hi) := Array.getElem?_eq_getElem hi
   obtain ⟨yi, hyi⟩ := hxi i _ hfi
   obtain ⟨q, hq⟩ := (hf i _ hfi W m _ yi (by rw [hx i _ hfi, hyi])).2 W' hb sp (fun q hq => hsp q (List.mem_flatMap.2 ⟨yi, List.mem_of_getElem? hyi, hq⟩))
   exact ⟨q, fun f hf' => by rw [hfi] at hf'; cases hf'; rw [hq, hyi]⟩
  obtain ⟨Q, hQ⟩ : ∃ Q, ∀ i, i < fs.size → ∀ f, fs[i]? = some f → DataW.trod enc P W' 0 sp true Q f.type ((cs.drop f.offset).take (P.cellsOf f.type)) = xs[i]? := by
   have key : ∀ k, k ≤ fs.size → ∃ Q, ∀ i, i < k → ∀ f, fs[i]? = some f → DataW.trod enc P W' 0 sp true Q f.type ((cs.drop f.offset).take (P.cellsOf f.type)) = xs[i]? := by
    intro k
    induction k with
    | zero => exact fun _ => ⟨0, fun i hi => absurd hi (Nat.not_lt_zero _)⟩
    | succ k ih =>
     intro hk
     obtain ⟨Q1, h1⟩ := ih (by omega)
     obtain ⟨q, h2⟩ := hre k (by omega)
     refine ⟨Q1 + q, fun i hi f hf' => ?_⟩
     obtain ⟨yi, hyi⟩ := hxi i f hf'
     rw [hyi]
     by_cases e : i = k
     ·subst e
      exact DataW.trod_le (Nat.le_add_left _ _) (by rw [h2 f hf', hyi])
     ·exact DataW.trod_le (Nat.le_add_right _ _) (by rw [h1 i (by omega) f hf', hyi])
   exact key _ (Nat.le_refl _)
  refine ⟨Q + 1, trod_struct_mk ht hl ?_⟩
  have hmm : ∀ (l : List Field) (zs : List (DataW H × List MemPlace)), l.length = zs.length → (∀ (i : Nat) (f : Field), l[i]? = some f → DataW.trod enc P W' 0 sp true Q f.type ((cs.drop f.offset).take (P.cellsOf f.type)) = zs[i]?) → l.mapM (fun f : Field => DataW.trod enc P W' 0 sp true Q f.type ((cs.drop f.offset).take (P.cellsOf f.type))) = some zs := by
   intro l
   induction l with
   | nil => intro zs hl _; cases zs with | nil => rfl | cons => cases hl
   | cons f l ih =>
    intro zs hl h
    cases zs with
    | nil => cases hl
    | cons z zs =>
     have h0 := h 0 f rfl
     rw [List.mapM_cons, h0]
     rw [ih zs (by simpa using hl) (fun i f hi => h (i + 1) f hi)]
     rfl
  exact hmm _ _ (by rw [Array.length_toList]; exact hxl.symm) (fun i f hi => by
   rw [Array.getElem?_toList] at hi
   exact hQ i (Array.getElem?_eq_some_iff.1 hi).1 f hi)
/-- A parameter read, by its cells. -/
theorem ElC.trod {t : TypeId} {R : World → List Value → Prop} (h : ElC P enc t R) {W : World} {v : Value} {d : DataW H} {p : List MemPlace} (hd : DataW.Trod enc P W 0 (fun _ => true) true t v d p) : R W v.cells.toList ∧ ∀ W' : World, Below W.heap.size W W' → ∀ sp : Nat → Bool, (∀ q ∈ p, sp q.block = true) → DataW.Trod enc P W' 0 sp true t v d p := by
 obtain ⟨n, hn⟩ := hd
 obtain ⟨h1, h2⟩ := h W n _ _ hn
 exact ⟨h1, h2⟩
end
end Go.Proofs.YtmcpnoailbmkkaaGreatDoor
/- Groups of items; elements of own rows, whole. Over any program. -/
namespace Go.Proofs.YtmcpnoailbmkkaaGreatDoor
open Go Go.RowKit Go.Proofs Go.Shelf
section
variable {P : Program} {n : Nat} {B : Bs} {Q : Exit → Act → World → Prop} {l : Sl} {H H1 HA HS rows : List It} {ops : Array Oper} {rest : List Oper} {o : Oper} {c : Code} {w w' : World} {x : Operand} {t : TypeId}
/-- An element of an own row, whole. -/
theorem vOwnA {α : Type} {k : Nat} {enc : α → List Value} (E : Enc k enc) {m c b j : Nat} {cs : List Value} {L : List α} {ty : TypeId} [g : Agg P t true] [z : Siz P t k] (ho : o.op = .load t x) (hx : evl l x = some (.pointer (some ⟨b, 0 + j * k + 0, none⟩))) (hm : ownB ty k (some ⟨b, 0, none⟩) m c (L.flatMap enc) ∈ H) (hj : j < L.length) (hv : enc (L[j]'hj) = cs) : RV P n B l H o (.agg cs.toArray) := by
 subst hv
 refine rv_ownagg ho hx g.h (by rw [E.len]; exact z.h) hm (fun i v hi => ?_)
 have h := (List.getElem?_eq_some_iff.1 hi).1
 rw [E.len] at h
 rw [Nat.zero_add, Nat.add_zero, flat_get E hj i h]; exact hi
theorem Wd.newA {A : It} {w0 w : World} {H : List It} (h : Wd (bs w0) H w) (hA : A ∈ H) (hr : A.ro = false) : (∀ b, A.foot b → w0.heap.size ≤ b) ∧ ∀ b, A.foot b → b < w.heap.size := by
 have o := (h.ok A hA).2
 refine ⟨fun b hb => ?_, fun b hb => (o b hb).2⟩
 rcases (o b hb).1 with h1 | h1 | h1
 ·rw [hr] at h1; cases h1
 ·exact h1.elim
 ·exact h1
theorem all_nro {HA : List It} (h : (HA.all fun A => !A.ro) = true) : ∀ A ∈ HA, A.ro = false := fun A hA => by
 have := List.all_eq_true.1 h A hA
 cases e : A.ro
 ·rfl
 ·rw [e] at this; cases this
/-- One item in the place of some, in their blocks. -/
theorem Wd.gather {C : It} (h : Wd B H w) (hk : Pk (rows ++ H1) H) (hr : (rows.all fun A => !A.ro) = true) (hC : C.holds w) (hf : ∀ b, C.foot b → ∃ A ∈ rows, A.foot b) : Wd B (C :: H1) w := by
 have h0 := h.pick hk
 have hr' := all_nro hr
 obtain ⟨s1, s2, s3⟩ := List.pairwise_append.1 h0.sep
 refine ⟨h0.os, h0.tape, h0.output, h0.size, h0.block, fun D hD => ?_, List.pairwise_cons.2 ⟨fun D hD => .inr (fun b h1 h2 => ?_), s2⟩⟩
 ·rcases List.mem_cons.1 hD with rfl | hD
  ·refine ⟨hC, fun b hb => ?_⟩
   obtain ⟨A, hA, hAb⟩ := hf b hb
   have o := (h0.ok A (by simp [hA])).2 b hAb
   exact ⟨o.1.imp_left (fun h => by rw [hr' A hA] at h; cases h), o.2⟩
  ·exact h0.ok D (by simp [hD])
 ·obtain ⟨A, hA, hAb⟩ := hf b h1
  exact sepR.out (s3 A hA D hD) (hr' A hA) b hAb h2
/-- Items as one. -/
def grpB (HA : List It) : It where
 foot b := ∃ A ∈ HA, A.foot b
 holds w := (∀ A ∈ HA, A.holds w) ∧ HA.Pairwise (fun (A C : It) => ∀ b : Nat, A.foot b → C.foot b → False)
 st w w' hb h := ⟨fun A hA => A.st w w' (fun b hf => hb b ⟨A, hA, hf⟩) (h.1 A hA), h.2⟩
theorem pw_out (hr : (HA.all fun A => !A.ro) = true) (h : HA.Pairwise sepR) : HA.Pairwise (fun (A C : It) => ∀ b : Nat, A.foot b → C.foot b → False) :=
 h.imp_of_mem (fun hA _ hs => sepR.out hs (all_nro hr _ hA))
theorem Wd.close (h : Wd B H w) (hk : Pk (HA ++ H1) H) (hr : (HA.all fun A => !A.ro) = true) : Wd B (grpB HA :: H1) w := by
 have h0 := h.pick hk
 exact h.gather hk hr ⟨fun A hA => (h0.ok A (by simp [hA])).1, pw_out hr (List.pairwise_append.1 h0.sep).1⟩ (fun b hb => hb)
theorem Wd.closeS (h : Wd B H w) (hk : Pk (HA ++ H1) H) (hr : (HA.all fun A => !A.ro) = true) (hs : HS.Sublist HA) : Wd B (grpB HS :: H1) w := by
 have h0 := h.pick hk
 exact h.gather hk hr ⟨fun A hA => (h0.ok A (by simp [hs.subset hA])).1, (pw_out hr (List.pairwise_append.1 h0.sep).1).sublist hs⟩ (fun b ⟨A, hA, hb⟩ => ⟨A, hs.subset hA, hb⟩)
theorem Wd.opn (h : Wd B H w) (hk : Pk (grpB HA :: H1) H) : Wd B (HA ++ H1) w := by
 have h0 := h.pick hk
 have hs := List.pairwise_cons.1 h0.sep
 have o := h0.ok (grpB HA) (by simp)
 refine ⟨h0.os, h0.tape, h0.output, h0.size, h0.block, fun D hD => ?_, List.pairwise_append.2 ⟨o.1.2.imp (fun h => .inr h), hs.2, fun A hA D hD => .inr (fun b h1 h2 => sepR.out (hs.1 D hD) rfl b ⟨A, hA, h1⟩ h2)⟩⟩
 rcases List.mem_append.1 hD with hD | hD
 ·refine ⟨o.1.1 D hD, fun b hb => ?_⟩
  have o2 := o.2 b ⟨D, hD, hb⟩
  exact ⟨o2.1.imp_left (fun h => by cases h), o2.2⟩
 ·exact h0.ok D (by simp [hD])
theorem J_close (HA : List It) (h : J P n B c Q l (grpB HA :: H1)) (hk : Pk (HA ++ H1) H := by repeat constructor) (hr : (HA.all fun A => !A.ro) = true := by rfl) : J P n B c Q l H := fun a w ha hw => h a w ha (hw.close hk hr)
theorem J_opn (HA : List It) (h : J P n B c Q l (HA ++ H1)) (hk : Pk (grpB HA :: H1) H := by repeat constructor) : J P n B c Q l H := fun a w ha hw => h a w ha (hw.opn hk)
theorem JL_opn (HA : List It) (h : JL P n B ops Q rest l (HA ++ H1)) (hk : Pk (grpB HA :: H1) H := by repeat constructor) : JL P n B ops Q rest l H := fun a w ha hw => h a w ha (hw.opn hk)
theorem grp_foot (HA : List It) : (allI [grpB HA]).foot = (allI HA).foot := by
 funext b
 apply propext
 constructor
 ·rintro ⟨A, hA, hb⟩
  rw [List.mem_singleton] at hA
  subst hA
  exact hb
 ·intro hb
  exact ⟨grpB HA, by simp, hb⟩
theorem one_foot (A : It) : (allI [A]).foot = A.foot := by
 funext b
 apply propext
 constructor
 ·rintro ⟨C, hC, hb⟩
  rw [List.mem_singleton] at hC
  subst hC
  exact hb
 ·intro hb
  exact ⟨A, by simp, hb⟩
/-- What a call does to items, told of their group. -/
theorem Pk.refl : ∀ H : List It, Pk H H
 | [] => .nil _
 | _ :: H => .pick (.here H) (Pk.refl H)
theorem RetL.grp {T : Type} {φ : T → Prop} {V : T → Value} {HC HN : T → List It} {e : Ending} (h : RetL HA φ V (fun t => HC t ++ HN t) w e w') (hr : ∀ t, ((HC t).all fun A => !A.ro) = true) : RetL [grpB HA] φ V (fun t => grpB (HC t) :: HN t) w e w' := by
 obtain ⟨t, h1, h2, h3⟩ := h
 refine ⟨t, h1, h2, ?_⟩
 rw [grp_foot]
 exact h3.close (Pk.refl _) (hr t)
theorem RetL.toM {A : It} {T : Type} {φ : T → Prop} {V : T → Value} {C : T → It} {e : Ending} (h : RetL [A] φ V (fun t => [C t]) w e w') : RetM A φ V C w e w' := by
 obtain ⟨t, h1, h2, h3⟩ := h
 rw [one_foot] at h3
 exact ⟨t, h1, h2, h3⟩
/-- A call's new items alone. -/
theorem Wd.stL (h : Wd B H w) (hk : Pk HA H) : Wd ⟨w, (allI HA).foot, none, []⟩ HA w := (h.pick hk).startL
/-- In a drawn region: a new block of cells is an own row. -/
theorem dAsOwn {ord : List Nat} {ld lx : List Nat} {H0 Hx H' : List It} {fuel : Nat} {listed : Array Bool} {b m kk ty : Nat} {vs : List Value} (ha : At (cellB b vs ty) (ownB ty kk (some ⟨b, 0, none⟩) m m vs) H H') (hl : vs.length = m * kk) (hm : m ≤ 1000000) (h : JD ord P n B ops Q ld H0 lx Hx fuel listed l H') : JD ord P n B ops Q ld H0 lx Hx fuel listed l H := fun a w h1 h2 => h a w h1 (h2.asOwn ha hl hm)
/-- append(s, t...), where s is not nil: nor is what comes of it. -/
theorem oAppG {α : Type} {k : Nat} {enc : α → List Value} (E : Enc k enc) {sl e : TypeId} {z : Value} {bytes d : Nat} {x y : Operand} {Y : Option Addr} {g c m c' : Nat} (L M : List α) {G : Nat × Nat → List It} [u : Und P sl (.slice e)] [i : Inf P e z k bytes] [s : Siz P e k]
 (hnews : ∀ w, Wd B H w → Arr k enc w (.slice Y m c') M) (hm : m = M.length) (hLc : L.length ≤ c) (ho : o.op = .call { callee := .builtin .append, args := #[x, y], argTypes := #[sl, sl] } := by rfl) (hk : 0 < k := by decide) (hzs : z.cells.size = k := by rfl) (hby : bytes ≤ 128 := by decide) (hd : o.dst = some d := by rfl) (hn : Nat.ble n d = false := by rfl)
 (hx : evl l x = some (.slice (some ⟨g, 0, none⟩) L.length c) := by rfl) (hy : evl l y = some (.slice Y m c') := by rfl) (hl : L.length + M.length ≤ 1000000 := by omega)
 (hat : ∀ t : Nat × Nat, At (ownB e k (some ⟨g, 0, none⟩) L.length c (L.flatMap enc)) (ownB e k (some ⟨t.1, 0, none⟩) (L ++ M).length t.2 ((L ++ M).flatMap enc)) H (G t) := by intro t; repeat constructor) : OpW P n B (some (ownB e k (some ⟨g, 0, none⟩) L.length c (L.flatMap enc))) l H o (fun _ : Nat × Nat => True) (fun t => (d, .slice (some ⟨t.1, 0, none⟩) (L ++ M).length t.2) :: l) G := by
 subst hm
 cases Y with
 | some a =>
  exact OpW.of_run (T := Nat × Nat) (φ := fun _ => True) (G := G) hd hn (V := fun t => .slice (some ⟨t.1, 0, none⟩) (L ++ M).length t.2) (fun a1 w ha hw => by
   have hown : Own 0 e k enc w (.slice (some ⟨g, 0, none⟩) L.length c) L := (hw.ok _ (hat (0, 0)).mem).1
   have hnw : ∀ j v, (M.flatMap enc)[j]? = some v → w.cell? (a.add j) = some v := fun j v hu => by
    have hne : M ≠ [] := by intro e; subst e; simp at hu
    obtain ⟨A', cap, e, -, -, h4⟩ := hnews w hw
    injection e with e1
    obtain ⟨b, q, e2, hh⟩ := h4 hne
    rw [← e1] at e2
    injection e2 with e2
    subst e2
    exact hh.news E hk j v hu
   obtain ⟨v', w', h1, h2, h3, h4, A', c2, rfl⟩ := run_app (sl := sl) (ty := o.type) E hk u.h i.h hzs hby hown (a := a) (m := M.length) (c := c') rfl hnw hl (Nat.zero_le _)
   rw [← List.length_append] at h1 h2 h4
   obtain ⟨g', hg'⟩ : ∃ g', (Value.slice A' (L ++ M).length c2).ownBlock = some g' := by
    rcases h4 with h | h
    ·exact ⟨g, h⟩
    ·exact ⟨_, h⟩
   obtain rfl : A' = some ⟨g', 0, none⟩ := by
    obtain ⟨A2, c3, e, -, h6⟩ := row_form h2
    injection e with e1 _ e3
    subst e1 e3
    exact (h6 g').1 hg'
   have hc : Chg (ownB e k (some ⟨g, 0, none⟩) L.length c (L.flatMap enc)) w w' := ⟨h3.os, h3.tape, h3.output, h3.size, fun b hb hnb => h3.block b hb (fun e => hnb e.symm)⟩
   refine ⟨(g', c2), w', trivial, run_append_op ho (ha.ev hx) (ha.ev hy) h1, hw.chg (hat (g', c2)) rfl rfl hc ?_ (fun b hb => ?_), hc⟩
   ·exact h2
   ·have hb' : (Value.slice (some ⟨g', 0, none⟩) (L ++ M).length c2).ownBlock = some b := hb
    rw [hb'] at h4
    refine ⟨?_, (World.ownsRow.lt h2 b hb').2⟩
    rcases h4 with h4 | h4
    ·exact .inl h4.symm
    ·injection h4 with h4; exact .inr (Nat.le_of_eq h4.symm))
 | none =>
  refine OpW.of_run (T := Nat × Nat) (φ := fun _ => True) (G := G) hd hn (V := fun t => .slice (some ⟨t.1, 0, none⟩) (L ++ M).length t.2) (fun a1 w ha hw => ?_)
  have hM : M = [] := by
   obtain ⟨A', cap, e, -, -, h4⟩ := hnews w hw
   injection e with e1
   cases M with
   | nil => rfl
   | cons u M =>
    obtain ⟨b, q, e2, -⟩ := h4 (by simp)
    rw [← e1] at e2; cases e2
  subst hM
  have hat' := hat (g, c)
  rw [List.append_nil] at hat'
  refine ⟨(g, c), w, trivial, ?_, ?_, ⟨rfl, rfl, rfl, Nat.le_refl _, fun _ _ _ => rfl⟩⟩
  ·rw [List.append_nil]
   exact run_append_op ho (ha.ev hx) (ha.ev hy) (run_append0' sl e o.type (some ⟨g, 0, none⟩) L.length c c' k u.h s.h hLc)
  ·rw [← hat'.same]; exact hw
end
end Go.Proofs.YtmcpnoailbmkkaaGreatDoor
/- Groups that grow. Over any program. -/
namespace Go.Proofs.YtmcpnoailbmkkaaGreatDoor
open Go Go.RowKit Go.Proofs Go.Shelf
section
variable {P : Program} {n : Nat} {B : Bs} {Q : Exit → Act → World → Prop} {l : Sl} {H H1 HA HS rows : List It} {ops : Array Oper} {rest : List Oper} {o : Oper} {c : Code} {w w' : World} {x : Operand} {t : TypeId}
theorem Wd.push {A : It} (h : Wd B H w) (hk : Pk (grpB HA :: A :: H1) H) (hr : (HA.all fun A => !A.ro) = true) (hA : A.ro = false) : Wd B (grpB (HA ++ [A]) :: H1) w := by
 have h1 := (h.pick hk).opn (Pk.refl _)
 have e : HA ++ A :: H1 = (HA ++ [A]) ++ H1 := by simp
 rw [e] at h1
 exact h1.close (HA := HA ++ [A]) (H1 := H1) (Pk.refl _) (by rw [List.all_append, hr]; simp [hA])
theorem JQ_push {e : Exit} (HA : List It) (A : It) (hr : (HA.all fun A => !A.ro) = true) (h : JQ n B Q e l (grpB (HA ++ [A]) :: H1)) (hk : Pk (grpB HA :: A :: H1) H := by repeat constructor) (hA : A.ro = false := by rfl) : JQ n B Q e l H := fun a w ha hw => h a w ha (hw.push hk hr hA)
theorem J_grp0 (h : J P n B c Q l (grpB [] :: H)) : J P n B c Q l H := fun a w ha hw => h a w ha (hw.new (Below.refl _ _) ⟨fun _ h => (by cases h), List.Pairwise.nil⟩ (fun _ ⟨_, h, _⟩ => by cases h))
/-- What a call that writes the items HA leaves of another one. -/
theorem Wd.keepL {C : It} {HH : List It} {w0 : World} (hw : Wd B H w0) (hW : Wd ⟨w0, (allI HA).foot, none, []⟩ HH w) (hk : Pk (C :: HA) H) (hr : (HA.all fun A => !A.ro) = true) : C.holds w := by
 have h2 := hw.pick hk
 have hs := (List.pairwise_cons.1 h2.sep).1
 have o := h2.ok C (by simp)
 refine C.st w0 w (fun b hb => hW.block b (o.2 b hb).2 ?_) o.1
 rintro ⟨A, hA, hAb⟩
 rcases hs A hA with h | h
 ·rw [all_nro hr A hA] at h; cases h.2
 ·exact h b hb hAb
theorem Wd.belL {HH : List It} {w0 w1 : World} (hw : Wd (bs w0) H w1) (hk : Pk HA H) (hr : (HA.all fun A => !A.ro) = true) (hW : Wd ⟨w1, (allI HA).foot, none, []⟩ HH w) : Below w0.heap.size w0 w := by
 have hb := hw.bel
 refine ⟨hW.os.trans hb.os, hW.tape.trans hb.tape, hW.output.trans hb.output, Nat.le_trans hb.size hW.size, fun b hlt => (hW.block b (Nat.lt_of_lt_of_le hlt hb.size) ?_).trans (hb.block b hlt)⟩
 rintro ⟨A, hA, hAb⟩
 have := (hw.newA (hk.sub A hA) (all_nro hr A hA)).1 b hAb
 omega
end
end Go.Proofs.YtmcpnoailbmkkaaGreatDoor
/- A range over a function that gives two values. Over any program. -/
namespace Go.Proofs.YtmcpnoailbmkkaaGreatDoor
open Go Go.RowKit Go.Proofs Go.Shelf
section
variable {P : Program} {n : Nat} {B : Bs} {Q : Exit → Act → World → Prop} {l : Sl} {H H' : List It} {c : Code} {w w' : World}
/-- The contract of an iterator f with what it has captured: T the states, Y what it hands out. -/
def Itr2 (P : Program) {T Y : Type} (f : FuncId) (caps : Array Value) (B : Bs) (φ : T → Prop) (HH : T → It → List It) (Yk : T → Y → Prop) (V V2 : Y → Value) (HG : T → Y → It → List It) (Rn : T → T → Prop) (fin ini : T → Prop) : Prop :=
 ∀ (lp : Nat) (X : It) (t0 : T) (W : World), φ t0 → ini t0 → Wd B (HH t0 X) W →
  (∀ t y W1, φ t → Yk t y → Wd B (HG t y X) W1 → ∀ m, YieldAt Fence.wide m P lp #[V y, V2 y] W1 (fun e W2 => e = .returned (.bool true) ∧ ∃ t', Rn t t' ∧ φ t' ∧ Wd B (HH t' X) W2)) →
  Calls P f (#[.func (.yield lp) #[] #[]] ++ caps) W (fun e W' => (∃ v, e = .returned v) ∧ ∃ t, φ t ∧ fin t ∧ Wd B (HH t X) W')
set_option maxHeartbeats 2000000 in
theorem J_range2 {T Y : Type} {g : Operand} {p q : Nat} {assign body : Code} {f : FuncId} {caps : Array Value} [hf : Cf P f] (φ : T → Prop) (HH : T → It → List It) (Yk : T → Y → Prop) (V V2 : Y → Value) (HG : T → Y → It → List It) (Rn : T → T → Prop) (fin ini : T → Prop) {Ds : List Nat} (l1 : Y → Sl)
  (hit : Itr2 P f caps ⟨B.w, B.m, none, []⟩ φ HH Yk V V2 HG Rn fin ini) (t0 : T) (h0 : φ t0) (hi0 : ini t0)
  (has : ∀ lp t y X, φ t → Yk t y → J P n ⟨B.w, B.m, some lp, []⟩ assign (Exit.then (CutP n ⟨B.w, B.m, some lp, []⟩ (fun _ : Unit => True) (fun _ => l1 y) (fun _ => HG t y X)) (fun _ _ _ => False)) ((q, V2 y) :: (p, V y) :: l) (HG t y X))
  (hbd : ∀ lp t y X, φ t → Yk t y → J P n ⟨B.w, B.m, some lp, []⟩ body (Exit.then (CutP n ⟨B.w, B.m, some lp, []⟩ (fun t' => Rn t t' ∧ φ t') (fun _ => []) (fun t' => HH t' X)) (fun _ _ _ => False)) (l1 y) (HG t y X))
  (k : ∀ D t, φ t → fin t → JQ n ⟨B.w, B.m, none, (D :: Ds).map mark⟩ Q .normal l (HH t (defsB (D :: Ds))))
  (hr : B.r = none := by rfl) (hd : B.d = Ds.map mark := by rfl) (hg : evl l g = some (.func (.func f) #[] caps) := by rfl) (hp : Nat.ble n p = false := by rfl) (hq : Nat.ble n q = false := by rfl)
  (hH : Pk (HH t0 (defsB Ds)) H := by repeat constructor) (a1 : ∀ t A C, At A C (HH t A) (HH t C) := by intro t A C; repeat constructor) (a2 : ∀ t y A C, At A C (HG t y A) (HG t y C) := by intro t y A C; repeat constructor) :
  J P n B (.rangeFunc g #[p, q] assign body) Q l H := by
 intro a w ha hw m
 rw [hr]
 have hF := hf.h
 have hw0 : Wd ⟨B.w, B.m, none, []⟩ (HH t0 (defsB Ds)) w := (hw.pick hH).re _ _
 clear hw hH
 refine wpIn_rangeFunc ?_
 intro fn hfn
 obtain ⟨rec, hrec⟩ : ∃ rec : LoopState → Option Code → Loop, rec = fun st pe => { state := st, pending := pe, fn, tmps := a.tmps, params := #[p, q], assign, body, defers := w.heap.size } := ⟨_, rfl⟩
 obtain ⟨W1, hW1⟩ : ∃ W1, (w.alloc (.deferred (some []))).alloc (.loop (rec .ready none)) = W1 := ⟨_, rfl⟩
 have hL1 : W1.heap[w.heap.size + 1]? = some (.loop (rec .ready none)) := by
  rw [← hW1]; have := World.alloc_heap_new (w.alloc (.deferred (some []))) (.loop (rec .ready none)); rwa [World.size_alloc] at this
 have hK1 : W1.heap[w.heap.size]? = some (.deferred (some [])) := by
  rw [← hW1]; exact (Below.heap_alloc _ _ _ (by simp)).trans (World.alloc_heap_new w _)
 have hb1 : Below w.heap.size w W1 := by rw [← hW1]; exact ((Below.refl _ _).alloc (Nat.le_refl _) _).alloc (by simp) _
 have hz1 : W1.heap.size = w.heap.size + 2 := by rw [← hW1]; simp
 have hmem := (a1 t0 (defsB Ds) (defsB Ds)).mem
 have hD0 := hw0.ok _ hmem
 have hnew : w.heap.size ∉ Ds := fun h => Nat.lt_irrefl _ (hD0.2 _ h).2
 have hnew1 : w.heap.size + 1 ∉ Ds := fun h => by have := (hD0.2 _ h).2; omega
 have hw1 : Wd ⟨B.w, B.m, none, []⟩ (HH t0 (loopB (w.heap.size + 1) (rec .ready none) (w.heap.size :: Ds))) W1 := by
  refine hw0.chg (a1 t0 _ _) rfl rfl ⟨hb1.os, hb1.tape, hb1.output, hb1.size, fun b hb _ => hb1.block b hb⟩ ⟨by simp [hnew1], List.nodup_cons.2 ⟨hnew, hD0.1.1⟩, hL1, fun D hD => ?_⟩ (fun b hb => ?_)
  ·rcases List.mem_cons.1 hD with rfl | hD
   ·exact hK1
   ·exact (hb1.block D (hD0.2 D hD).2).trans (hD0.1.2 D hD)
  ·rcases hb with rfl | hb
   ·exact ⟨.inr (by omega), by omega⟩
   ·rcases List.mem_cons.1 hb with rfl | hb
    ·exact ⟨.inr (Nat.le_refl _), by omega⟩
    ·exact ⟨.inl hb, by have := (hD0.2 b hb).2; omega⟩
 refine ⟨w.heap.size + 1, [mark w.heap.size], W1, { target := .fn (.func f) caps, args := #[.func (.yield (w.heap.size + 1)) #[] #[]] }, W1, f,
  #[.func (.yield (w.heap.size + 1)) #[] #[]] ++ caps, W1, ?_, ?_, ?_, ?_, fun h => (by cases h), ?_⟩
 ·rw [← hW1, hrec]; exact run_enterLoop_outer _ _ _ _ _
 ·simp only [resolve, ha.evD hg]
  simp [go_sem]
 ·intro f' _; exact trivial
 ·simp [invoke, go_sem, hF]
 refine (callsIn_wide.2 (hit (w.heap.size + 1) (loopB (w.heap.size + 1) (rec .ready none) (w.heap.size :: Ds)) t0 W1 h0 hi0 hw1 ?_)).mono ?_
 ·intro t y W ht hy hwW m'
  have hX := (hwW.ok _ (a2 t y (loopB (w.heap.size + 1) (rec .ready none) (w.heap.size :: Ds)) (loopB (w.heap.size + 1) (rec .ready none) (w.heap.size :: Ds))).mem).1
  have hl := hX.2.2.1
  have hy1 := run_yield (P := P) (args := #[V y, V2 y]) hl (by rw [hrec]; simp)
  rw [hrec] at hy1
  refine ⟨fn, _, assign, body, hy1, roundIn_of_wpIn trivial ?_⟩
  have hfr : Fr n ((q, V2 y) :: (p, V y) :: l) { tmps := (a.tmps.setIfInBounds p (V y)).setIfInBounds q (V2 y), defers := [] } := by
   have h := (ha.put p (V y) hp).put q (V2 y) hq
   exact ⟨h.size, rfl, h.get⟩
  have hA := has (w.heap.size + 1) t y _ ht hy _ W hfr hwW.un m'
  refine wpIn_mono (Q := NO _) (by simpa [Bs.df, wr, Fence.inRound] using hA) ?_
  intro e a2' w2 hq
  cases e with
  | normal =>
   obtain ⟨_, -, a0, rfl, hf0, hw2⟩ := hq
   have hX2 := (hw2.ok _ (a2 t y (loopB (w.heap.size + 1) (rec .ready none) (w.heap.size :: Ds)) (loopB (w.heap.size + 1) (rec .ready none) (w.heap.size :: Ds))).mem).1
   refine ⟨_, run_beginRound hX2.2.2.1 (by rw [hrec]), ?_⟩
   have hw3 := hw2.loop (L' := { rec .ready none with state := .busy }) (a2 t y _ _)
   refine wpIn_mono (hbd (w.heap.size + 1) t y _ ht hy a0 _ hf0 hw3 m') ?_
   intro e a3 w4 hq
   cases e with
   | normal =>
    obtain ⟨t', ⟨hR, hφ⟩, a4, rfl, -, hw5⟩ := hq
    have hX5 := (hw5.ok _ (a1 t' (loopB (w.heap.size + 1) { rec .ready none with state := .busy } (w.heap.size :: Ds)) (loopB (w.heap.size + 1) { rec .ready none with state := .busy } (w.heap.size :: Ds))).mem).1
    refine ⟨_, _, run_endRound none hX5.2.2.1, rfl, t', hR, hφ, ?_⟩
    have := hw5.loop (L' := rec .ready none) (a1 t' _ _)
    rw [hrec] at this ⊢
    exact this.un
   | _ => exact hq.elim
  | _ => exact hq.elim
 ·rintro e W2 ⟨⟨u, rfl⟩, t, hφ, hfin, hw2⟩
  have hX2 := (hw2.ok _ (a1 t (loopB (w.heap.size + 1) (rec .ready none) (w.heap.size :: Ds)) (loopB (w.heap.size + 1) (rec .ready none) (w.heap.size :: Ds))).mem).1
  refine ⟨none, _, (run_endLoop hX2.2.2.1 (by rw [hrec]; simp)).trans (by rw [hrec]), ?_⟩
  have hw3 := hw2.loop (L' := { rec .ready none with state := .exhausted }) (a1 t _ _)
  have hX3 := (hw3.ok _ (a1 t (loopB (w.heap.size + 1) { rec .ready none with state := .exhausted } (w.heap.size :: Ds)) (loopB (w.heap.size + 1) { rec .ready none with state := .exhausted } (w.heap.size :: Ds))).mem).1
  have hw4 := hw3.turn (a1 t _ (defsB (w.heap.size :: Ds))) (fun h => (by cases h)) ⟨hX3.2.1, hX3.2.2.2⟩ (fun b hb => .inr hb)
  have hk := k w.heap.size t hφ hfin a _ ha (by rw [hrec] at hw4; exact hw4.un)
  show Q .normal _ _
  have e : ({ B.df a with defers := [mark w.heap.size] ++ (B.df a).defers } : Act) = (⟨B.w, B.m, none, (w.heap.size :: Ds).map mark⟩ : Bs).df a := by
   simp [Bs.df, hd]
  rw [e]
  exact hk
variable {ops : Array Oper} {rest : List Oper} {o : Oper}
/-- In a region with a call of yield: a call that leaves all as it lay; yield with two values; what is known. -/
theorem iC {f : FuncId} {args : Array Value} {v : Value} {d : Nat} (he : EC P n l o f args) (hC : ∀ w, Wd B H w → Calls P f args w (fun e w' => e = .returned v ∧ Below w.heap.size w w')) (k : JLi P n B ops Q rest ((d, v) :: l) H) (hnd : isDef o.op = false := by rfl) (hd : o.dst = some d := by rfl) (hW : WN ops n l o true := by exact wAny) (hn : Nat.ble n d = false := by rfl) : JLi P n B ops Q (o :: rest) l H := fun a w ha hw m =>
 wpListIn_step (fun K hK => by
  rw [if_pos (hW.D ha)]
  unfold Oper.wpIn
  refine ⟨fun _ _ => trivial, ?_⟩
  rw [Oper.semAt_plain _ _ _ (fun c hc => by rw [hc] at hnd; cases hnd), show (execOp (B.df a).eval o).run P w = .ok (.enter f args) w from he a w ha]
  refine ⟨fun h => (by cases h), (callsIn_wide (n := m - 1)).2 ((hC w hw).mono ?_)⟩
  rintro e W2 ⟨rfl, hb⟩
  show K ((B.df a).put o.dst v) W2
  rw [hd]
  exact hK _ _ (by rw [Bs.df_put]; exact k _ _ (ha.put d v hn) (hw.up hb) m))
theorem iKT {d : Nat} {p : Prop} [Decidable p] (hp : p) (k : JLi P n B ops Q rest ((d, .bool true) :: l) H) : JLi P n B ops Q rest ((d, .bool (decide p)) :: l) H := fun a w ha hw m => k a w (Fr.known (decide_eq_true hp) ha) hw m
theorem iY2 {T : Type} {φ : T → Prop} {HH : T → List It} {ts : Array TypeId} {x y z : Operand} {lp d : Nat} {v u : Value} (hY : ∀ W, Wd B H W → ∀ m, YieldAt Fence.wide m P lp #[v, u] W (fun e W2 => e = .returned (.bool true) ∧ ∃ t', φ t' ∧ Wd B (HH t') W2))
 (k : ∀ t', φ t' → JLi P n B ops Q rest ((d, .bool true) :: l) (HH t')) (ho : o.op = .call { callee := .value x, args := #[y, z], argTypes := ts } := by rfl) (hx : evl l x = some (.func (.yield lp) #[] #[]) := by rfl) (hy : evl l y = some v := by rfl) (hz : evl l z = some u := by rfl) (hd : o.dst = some d := by rfl) (hW : WN ops n l o true := by exact wAny) (hn : Nat.ble n d = false := by rfl) :
 JLi P n B ops Q (o :: rest) l H := fun a w ha hw m =>
 wpListIn_step (fun K hK => by
  rw [if_pos (hW.D ha)]
  obtain ⟨fn, tmps, assign, body, h1, h2⟩ := hY w hw (m - 1)
  have he : (execOp (B.df a).eval o).run P w = .ok (.round lp fn tmps assign body) w := by
   unfold execOp; rw [ho]
   simp only [resolve, ha.evD hx, List.map_toArray, List.map_cons, List.map_nil]
   simp [Deferred.ofValue, invoke, ha.evD hy, ha.evD hz, h1]
  unfold Oper.wpIn
  refine ⟨fun _ _ => trivial, ?_⟩
  rw [Oper.semAt_plain _ _ _ (fun c hc => by rw [ho] at hc; cases hc), he, Oper.uponIn_round]
  refine ⟨fun h => (by cases h), h2.mono ?_⟩
  rintro e W2 ⟨rfl, t', h3, h4⟩
  show K ((B.df a).put o.dst (.bool true)) W2
  rw [hd]
  exact hK _ _ (by rw [Bs.df_put]; exact k t' h3 _ _ (ha.put d _ hn) h4 m))
theorem YieldAt.mono' {F : Fence} {m : Nat} {P : Program} {l : Nat} {args : Array Value} {W : World} {R R' : Ending → World → Prop} (h : YieldAt F m P l args W R) (hR : ∀ e W, R e W → R' e W) : YieldAt F m P l args W R' := by
 obtain ⟨fn, tmps, assign, body, h1, h2⟩ := h
 exact ⟨fn, tmps, assign, body, h1, h2.mono hR⟩
end
end Go.Proofs.YtmcpnoailbmkkaaGreatDoor
/- Views. Over any program. -/
namespace Go.Proofs.YtmcpnoailbmkkaaGreatDoor
open Go Go.RowKit Go.Proofs Go.Shelf
end Go.Proofs.YtmcpnoailbmkkaaGreatDoor
/- An entry of a map's literal; strings as keys. Over any program. -/
namespace Go.Proofs.YtmcpnoailbmkkaaGreatDoor
open Go Go.RowKit Go.Proofs Go.Shelf Go.ChangeMaps
section
variable {P : Program} {α β : Type} {kt e t : TypeId} {kv : α → Value} {ok : α → Prop} {ev : β → Value} {ed : β → DataW Unit} {z : β} {okE : β → Prop}
variable {n : Nat} {B : Bs} {Q : Exit → Act → World → Prop} {l : Sl} {H H' : List It} {ops : Array Oper} {rest : List Oper} {o : Oper} {x y q : Operand}
end
end Go.Proofs.YtmcpnoailbmkkaaGreatDoor
/- Items as one view; one item out of a group. Over any program. -/
namespace Go.Proofs.YtmcpnoailbmkkaaGreatDoor
open Go Go.RowKit Go.Proofs Go.Shelf
theorem Pk.skip (C : It) {l H : List It} (h : Pk l H) : Pk l (C :: H) := by
 induction h with
 | nil H => exact .nil _
 | pick r _ ih => exact .pick (.there C r) ih
section
variable {P : Program} {n : Nat} {B : Bs} {Q : Exit → Act → World → Prop} {l : Sl} {H H1 H2 HA HS rows : List It} {ops : Array Oper} {rest : List Oper} {c : Code} {w : World}
end
end Go.Proofs.YtmcpnoailbmkkaaGreatDoor
/- Operations on bytes; a fact in a drawn region. Over any program. -/
namespace Go.Proofs.YtmcpnoailbmkkaaGreatDoor
open Go Go.RowKit Go.Proofs Go.Shelf
section
variable {P : Program} {n : Nat} {l : Sl} {o : Oper} {x y : Operand} {t ty : TypeId}
theorem pConv8 {s d : TypeId} {a : Int} [us : Und P s (.int .u8)] [ud : Und P d (.int .i64)] (ho : o.op = .convert s d x) (hx : evl l x = some (.int .u8 a)) (ha : U8 a) : RP P n l o (.int .i64 a) := rp1 hx (fun _ h1 _ => ex_conv8 ho h1 ha)
theorem pNeqB {a b : Bool} [u : Und P t .bool] (ho : o.op = .binOp .neq t x y ty) (hx : evl l x = some (.bool a)) (hy : evl l y = some (.bool b)) : RP P n l o (.bool (decide (a ≠ b))) := rp2 hx hy (fun ρ h1 h2 w => by
 have e : decide (a ≠ b) = !(a == b) := by cases a <;> cases b <;> rfl
 rw [e]
 unfold execOp
 simp only [ho, h1, h2]
 have hu := u.h
 go_simp)
end
end Go.Proofs.YtmcpnoailbmkkaaGreatDoor
/- Differences and negatives that may wrap. Over any program. -/
namespace Go.Proofs.YtmcpnoailbmkkaaGreatDoor
open Go Go.RowKit Go.Proofs Go.Shelf
section
variable {P : Program} {n : Nat} {l : Sl} {o : Oper} {x y : Operand} {t ty : TypeId}
end
end Go.Proofs.YtmcpnoailbmkkaaGreatDoor
/- In a region with a call of yield: what comes behind it goes as in a plain region. Over any program. -/
namespace Go.Proofs.YtmcpnoailbmkkaaGreatDoor
open Go Go.RowKit Go.Proofs Go.Shelf
section
variable {P : Program} {n : Nat} {B : Bs} {Q : Exit → Act → World → Prop} {l : Sl} {H : List It} {ops : Array Oper} {rest : List Oper}
theorem listIn_wide {m : Nat} : ∀ (xs : List Oper) (a : Act) (w : World), (∀ o ∈ xs, ∀ c, o.op ≠ .defer c) → wpList P ops (NO Q) xs a w → wpListIn Fence.wide m P ops (NO Q) xs a w := by
 intro xs
 induction xs with
 | nil => intro a w _ h; exact h
 | cons o xs ih =>
  intro a w hn h
  have ih' : ∀ a w, wpList P ops (NO Q) xs a w → wpListIn Fence.wide m P ops (NO Q) xs a w := fun a w => ih a w (fun o ho => hn o (by simp [ho]))
  have hnd := hn o (by simp)
  unfold wpList at h
  unfold wpListIn
  split
  ·rename_i hw
   rw [if_pos hw] at h
   rcases h with h | ⟨-, h⟩
   case inr => exact absurd h NO.nlet
   unfold Oper.wpIn
   refine ⟨fun _ _ => trivial, ?_⟩
   rw [Oper.semAt_plain _ _ _ hnd]
   unfold Oper.wp at h
   generalize (execOp a.eval o).run P w = r at h ⊢
   cases r with
   | ok x w' =>
    cases x <;> simp only [Oper.upon, Oper.uponIn] at h ⊢
    case value => exact ih' _ _ h
    case skip => exact ih' _ _ h
    case defer => exact ih' _ _ h
    case enter =>
     refine ⟨fun h => (by cases h), (callsIn_wide (n := m - 1)).2 (h.mono ?_)⟩
     intro e w2 he
     cases e with
     | returned v => exact ih' _ _ he
     | _ => exact he
    case row => exact ⟨fun h => (by cases h), fun c cs _ => let ⟨v, w2, r, s⟩ := h c cs; ⟨v, w2, ih' _ _ r, stepsIn_wide.2 s⟩⟩
   | halt x w' => cases x <;> simp only [Oper.upon, Oper.uponIn] at h ⊢ <;> exact h
  ·rename_i hw
   rw [if_neg hw] at h
   exact ⟨fun _ _ => trivial, ih' _ _ h⟩
theorem iJ (h : JL P n B ops Q rest l H) (hd : ndL rest = true := by rfl) : JLi P n B ops Q rest l H := fun a w ha hw m => listIn_wide rest _ w (fun o ho c hc => by
 have := (Array.all_eq_true'.1 (show (rest.toArray.all fun o => match o.op with | .defer _ => false | _ => true) = true from ndL_noDefer hd)) o (by simpa using ho)
 rw [hc] at this
 cases this) (h a w ha hw)
end
end Go.Proofs.YtmcpnoailbmkkaaGreatDoor
/- A drawn region with a call of yield. Over any program. -/
namespace Go.Proofs.YtmcpnoailbmkkaaGreatDoor
open Go Go.RowKit Go.Proofs Go.Shelf
section
variable {P : Program} {n : Nat} {B : Bs} {Q : Exit → Act → World → Prop} {l : Sl} {H H' : List It} {c : Code} {w w' : World}
set_option maxHeartbeats 2000000 in
theorem J_range3 {T Y U : Type} {g : Operand} {p q : Nat} {assign body : Code} {f : FuncId} {caps : Array Value} [hf : Cf P f] (φ : T → Prop) (HH : T → It → List It) (Yk : T → Y → Prop) (V V2 : Y → Value) (HG : T → Y → It → List It) (Rn : T → T → Prop) (fin ini : T → Prop) {Ds : List Nat} (l1 : U → Y → Sl) (HU : U → T → Y → It → List It)
  (hit : Itr2 P f caps ⟨B.w, B.m, none, []⟩ φ HH Yk V V2 HG Rn fin ini) (t0 : T) (h0 : φ t0) (hi0 : ini t0)
  (has : ∀ lp t y X, φ t → Yk t y → J P n ⟨B.w, B.m, some lp, []⟩ assign (Exit.then (CutP n ⟨B.w, B.m, some lp, []⟩ (fun _ : U => True) (fun u => l1 u y) (fun u => HU u t y X)) (fun _ _ _ => False)) ((q, V2 y) :: (p, V y) :: l) (HG t y X))
  (hbd : ∀ lp t y X u, φ t → Yk t y → J P n ⟨B.w, B.m, some lp, []⟩ body (Exit.then (CutP n ⟨B.w, B.m, some lp, []⟩ (fun t' => Rn t t' ∧ φ t') (fun _ => []) (fun t' => HH t' X)) (fun _ _ _ => False)) (l1 u y) (HU u t y X))
  (k : ∀ D t, φ t → fin t → JQ n ⟨B.w, B.m, none, (D :: Ds).map mark⟩ Q .normal l (HH t (defsB (D :: Ds))))
  (hr : B.r = none := by rfl) (hd : B.d = Ds.map mark := by rfl) (hg : evl l g = some (.func (.func f) #[] caps) := by rfl) (hp : Nat.ble n p = false := by rfl) (hq : Nat.ble n q = false := by rfl)
  (hH : Pk (HH t0 (defsB Ds)) H := by repeat constructor) (a1 : ∀ t A C, At A C (HH t A) (HH t C) := by intro t A C; repeat constructor) (a2 : ∀ t y A C, At A C (HG t y A) (HG t y C) := by intro t y A C; repeat constructor) (a3 : ∀ u t y A C, At A C (HU u t y A) (HU u t y C) := by intro u t y A C; repeat constructor) :
  J P n B (.rangeFunc g #[p, q] assign body) Q l H := by
 intro a w ha hw m
 rw [hr]
 have hF := hf.h
 have hw0 : Wd ⟨B.w, B.m, none, []⟩ (HH t0 (defsB Ds)) w := (hw.pick hH).re _ _
 clear hw hH
 refine wpIn_rangeFunc ?_
 intro fn hfn
 obtain ⟨rec, hrec⟩ : ∃ rec : LoopState → Option Code → Loop, rec = fun st pe => { state := st, pending := pe, fn, tmps := a.tmps, params := #[p, q], assign, body, defers := w.heap.size } := ⟨_, rfl⟩
 obtain ⟨W1, hW1⟩ : ∃ W1, (w.alloc (.deferred (some []))).alloc (.loop (rec .ready none)) = W1 := ⟨_, rfl⟩
 have hL1 : W1.heap[w.heap.size + 1]? = some (.loop (rec .ready none)) := by
  rw [← hW1]; have := World.alloc_heap_new (w.alloc (.deferred (some []))) (.loop (rec .ready none)); rwa [World.size_alloc] at this
 have hK1 : W1.heap[w.heap.size]? = some (.deferred (some [])) := by
  rw [← hW1]; exact (Below.heap_alloc _ _ _ (by simp)).trans (World.alloc_heap_new w _)
 have hb1 : Below w.heap.size w W1 := by rw [← hW1]; exact ((Below.refl _ _).alloc (Nat.le_refl _) _).alloc (by simp) _
 have hz1 : W1.heap.size = w.heap.size + 2 := by rw [← hW1]; simp
 have hmem := (a1 t0 (defsB Ds) (defsB Ds)).mem
 have hD0 := hw0.ok _ hmem
 have hnew : w.heap.size ∉ Ds := fun h => Nat.lt_irrefl _ (hD0.2 _ h).2
 have hnew1 : w.heap.size + 1 ∉ Ds := fun h => by have := (hD0.2 _ h).2; omega
 have hw1 : Wd ⟨B.w, B.m, none, []⟩ (HH t0 (loopB (w.heap.size + 1) (rec .ready none) (w.heap.size :: Ds))) W1 := by
  refine hw0.chg (a1 t0 _ _) rfl rfl ⟨hb1.os, hb1.tape, hb1.output, hb1.size, fun b hb _ => hb1.block b hb⟩ ⟨by simp [hnew1], List.nodup_cons.2 ⟨hnew, hD0.1.1⟩, hL1, fun D hD => ?_⟩ (fun b hb => ?_)
  ·rcases List.mem_cons.1 hD with rfl | hD
   ·exact hK1
   ·exact (hb1.block D (hD0.2 D hD).2).trans (hD0.1.2 D hD)
  ·rcases hb with rfl | hb
   ·exact ⟨.inr (by omega), by omega⟩
   ·rcases List.mem_cons.1 hb with rfl | hb
    ·exact ⟨.inr (Nat.le_refl _), by omega⟩
    ·exact ⟨.inl hb, by have := (hD0.2 b hb).2; omega⟩
 refine ⟨w.heap.size + 1, [mark w.heap.size], W1, { target := .fn (.func f) caps, args := #[.func (.yield (w.heap.size + 1)) #[] #[]] }, W1, f,
  #[.func (.yield (w.heap.size + 1)) #[] #[]] ++ caps, W1, ?_, ?_, ?_, ?_, fun h => (by cases h), ?_⟩
 ·rw [← hW1, hrec]; exact run_enterLoop_outer _ _ _ _ _
 ·simp only [resolve, ha.evD hg]
  simp [go_sem]
 ·intro f' _; exact trivial
 ·simp [invoke, go_sem, hF]
 refine (callsIn_wide.2 (hit (w.heap.size + 1) (loopB (w.heap.size + 1) (rec .ready none) (w.heap.size :: Ds)) t0 W1 h0 hi0 hw1 ?_)).mono ?_
 ·intro t y W ht hy hwW m'
  have hX := (hwW.ok _ (a2 t y (loopB (w.heap.size + 1) (rec .ready none) (w.heap.size :: Ds)) (loopB (w.heap.size + 1) (rec .ready none) (w.heap.size :: Ds))).mem).1
  have hl := hX.2.2.1
  have hy1 := run_yield (P := P) (args := #[V y, V2 y]) hl (by rw [hrec]; simp)
  rw [hrec] at hy1
  refine ⟨fn, _, assign, body, hy1, roundIn_of_wpIn trivial ?_⟩
  have hfr : Fr n ((q, V2 y) :: (p, V y) :: l) { tmps := (a.tmps.setIfInBounds p (V y)).setIfInBounds q (V2 y), defers := [] } := by
   have h := (ha.put p (V y) hp).put q (V2 y) hq
   exact ⟨h.size, rfl, h.get⟩
  have hA := has (w.heap.size + 1) t y _ ht hy _ W hfr hwW.un m'
  refine wpIn_mono (Q := NO _) (by simpa [Bs.df, wr, Fence.inRound] using hA) ?_
  intro e a2' w2 hq
  cases e with
  | normal =>
   obtain ⟨u, -, a0, rfl, hf0, hw2⟩ := hq
   have hX2 := (hw2.ok _ (a3 u t y (loopB (w.heap.size + 1) (rec .ready none) (w.heap.size :: Ds)) (loopB (w.heap.size + 1) (rec .ready none) (w.heap.size :: Ds))).mem).1
   refine ⟨_, run_beginRound hX2.2.2.1 (by rw [hrec]), ?_⟩
   have hw3 := hw2.loop (L' := { rec .ready none with state := .busy }) (a3 u t y _ _)
   refine wpIn_mono (hbd (w.heap.size + 1) t y _ u ht hy a0 _ hf0 hw3 m') ?_
   intro e a3 w4 hq
   cases e with
   | normal =>
    obtain ⟨t', ⟨hR, hφ⟩, a4, rfl, -, hw5⟩ := hq
    have hX5 := (hw5.ok _ (a1 t' (loopB (w.heap.size + 1) { rec .ready none with state := .busy } (w.heap.size :: Ds)) (loopB (w.heap.size + 1) { rec .ready none with state := .busy } (w.heap.size :: Ds))).mem).1
    refine ⟨_, _, run_endRound none hX5.2.2.1, rfl, t', hR, hφ, ?_⟩
    have := hw5.loop (L' := rec .ready none) (a1 t' _ _)
    rw [hrec] at this ⊢
    exact this.un
   | _ => exact hq.elim
  | _ => exact hq.elim
 ·rintro e W2 ⟨⟨u, rfl⟩, t, hφ, hfin, hw2⟩
  have hX2 := (hw2.ok _ (a1 t (loopB (w.heap.size + 1) (rec .ready none) (w.heap.size :: Ds)) (loopB (w.heap.size + 1) (rec .ready none) (w.heap.size :: Ds))).mem).1
  refine ⟨none, _, (run_endLoop hX2.2.2.1 (by rw [hrec]; simp)).trans (by rw [hrec]), ?_⟩
  have hw3 := hw2.loop (L' := { rec .ready none with state := .exhausted }) (a1 t _ _)
  have hX3 := (hw3.ok _ (a1 t (loopB (w.heap.size + 1) { rec .ready none with state := .exhausted } (w.heap.size :: Ds)) (loopB (w.heap.size + 1) { rec .ready none with state := .exhausted } (w.heap.size :: Ds))).mem).1
  have hw4 := hw3.turn (a1 t _ (defsB (w.heap.size :: Ds))) (fun h => (by cases h)) ⟨hX3.2.1, hX3.2.2.2⟩ (fun b hb => .inr hb)
  have hk := k w.heap.size t hφ hfin a _ ha (by rw [hrec] at hw4; exact hw4.un)
  show Q .normal _ _
  have e : ({ B.df a with defers := [mark w.heap.size] ++ (B.df a).defers } : Act) = (⟨B.w, B.m, none, (w.heap.size :: Ds).map mark⟩ : Bs).df a := by
   simp [Bs.df, hd]
  rw [e]
  exact hk
end
section
variable {P : Program} {n : Nat} {B : Bs} {l : Sl} {H : List It}
theorem JR_marks3 {fn : Func} {R : Ending → World → Prop} {r s q : ResultVar} {v u x : Value} {k : Nat} (HX : It → List It) {Ds : List Nat} (hr : fn.results = #[r, s, q]) (h1 : ∀ A, RR P n B l (HX A) r v) (h2 : ∀ A, RR P n B l (HX A) s u) (h3 : ∀ A, RR P n B l (HX A) q x) (hR : ∀ w, Wd B (HX (defsB [])) w → R (.returned (.tuple #[v, u, x])) w) (hd : B.d = Ds.map mark := by rfl) (hH : Pk (HX (defsB Ds)) H := by repeat constructor) (hat : ∀ A C, At A C (HX A) (HX C) := by intro A C; repeat constructor) :
  JQ n B (bodyPostM Fence.wide k P fn R) .ret l H := by
 intro a w ha hw
 show LeavesInM Fence.wide k P fn a.tmps R B.d .returning w
 rw [hd]
 have hw' := hw.pick hH
 clear hw hH hd
 induction Ds generalizing w with
 | nil =>
  refine ⟨.tuple #[v, u, x], ?_, hR w hw'⟩
  have h1 := h1 _ a w ha hw'
  have h2 := h2 _ a w ha hw'
  have h3 := h3 _ a w ha hw'
  rw [results_rvS, hr]
  simp [h1, h2, h3]
 | cons D Ds ih =>
  obtain ⟨h2, h3⟩ := Wd.take (P := P) hw' (hat _ _)
  exact ⟨by simp, .inl ⟨D, _, rfl, h2, ih _ h3⟩⟩
end
section
variable {P : Program} {n : Nat} {B : Bs} {Q : Exit → Act → World → Prop} {l : Sl} {H : List It} {ops : Array Oper} {o : Oper} {fuel : Nat} {listed : Array Bool}
/-- As Q, but for a panic. -/
def NX (Q : Exit → Act → World → Prop) : Exit → Act → World → Prop
 | .panic _, _, _ => False
 | e, a, w => NO Q e a w
def JAi (P : Program) (n : Nat) (B : Bs) (ops : Array Oper) (Q : Exit → Act → World → Prop) (fuel : Nat) (listed : Array Bool) (l : Sl) (H : List It) : Prop := ∀ a w, Fr n l a → Wd B H w → ∀ m, wpAnyIn Fence.wide m P .any ops (NX Q) fuel listed (B.df a) w
def JOi (P : Program) (n : Nat) (B : Bs) (ops : Array Oper) (Q : Exit → Act → World → Prop) (i fuel : Nat) (listed : Array Bool) (l : Sl) (H : List It) : Prop := ∀ a w, Fr n l a → Wd B H w → ∀ m, wpOpIn Fence.wide m P ops (NX Q) i (wpAnyIn Fence.wide m P .any ops (NX Q) fuel (listed.setIfInBounds i true)) (B.df a) w
theorem J_draI {id : Nat} {ls : List Oper} (hm : P.follows .mixedOrders = true) (h : JAi P n B ls.toArray Q ls.length (Array.replicate ls.length false) l H) (hr : B.r = none := by rfl) : J P n B (.region id ls.toArray true) Q l H := fun a w ha hw m => by
 rw [hr]
 refine wpIn_mono (Q := NX Q) (wpIn_region_any hm (by have := h a w.drew ha hw.drew m; rw [show ls.toArray.size = ls.length by simp]; exact this)) ?_
 intro e a' w' hq
 cases e <;> first | exact hq.elim | exact hq
theorem jiP {i d : Nat} {v : Value} (hi : ops[i]? = some o) (hd : o.dst = some d) (hs : Region.noSelect ops = true) (hf : Region.free .any ops listed i = true) (hr : (Region.ready .any ops listed).contains i = true) (hab : ∀ w ρ, o.about P w ρ = none) (hW : WN ops n l o true) (hv : RP P n l o v) (hn : Nat.ble n d = false)
 (k : JAi P n B ops Q fuel (listed.setIfInBounds i true) ((d, v) :: l) H) : JAi P n B ops Q (fuel + 1) listed l H := fun a w ha hw m =>
 wpAnyIn_take rfl hi hs hf hr (fun c a w h => h.elim) ⟨.inl ⟨hW.D ha, fun w' => hv a w' ha⟩, fun w' => hab w' _⟩ (by rw [hd, Bs.df_put]; exact k _ _ (ha.put d v hn) hw m)
theorem ji1 {i : Nat} (hr : Region.ready .any ops listed = [i]) (h : JOi P n B ops Q i fuel listed l H) : JAi P n B ops Q (fuel + 1) listed l H := fun a w ha hw m =>
 wpAnyIn_all hr (by simp) (fun j hj => by
  obtain rfl : j = i := by simpa using hj
  exact h a w ha hw m)
theorem ji2 {i j : Nat} (hr : Region.ready .any ops listed = [i, j]) (h1 : JOi P n B ops Q i fuel listed l H) (h2 : JOi P n B ops Q j fuel listed l H) : JAi P n B ops Q (fuel + 1) listed l H := fun a w ha hw m =>
 wpAnyIn_all hr (by simp) (fun k hk => by
  rcases List.mem_cons.1 hk with rfl | hk
  ·exact h1 a w ha hw m
  ·obtain rfl : k = j := by simpa using hk
   exact h2 a w ha hw m)
theorem jiE (hr : Region.ready .any ops listed = []) (h : JQ n B Q .normal l H) : JAi P n B ops Q fuel listed l H := fun a w ha hw _ => wpAnyIn_done (Q := NX Q) hr (show NX Q .normal (B.df a) w from h a w ha hw) _
theorem joV {i d : Nat} {v : Value} (hi : ops[i]? = some o) (hv : RV P n B l H o v) (hd : o.dst = some d) (hnd : isDef o.op = false) (hW : WN ops n l o true) (hn : Nat.ble n d = false) (k : JAi P n B ops Q fuel (listed.setIfInBounds i true) ((d, v) :: l) H) : JOi P n B ops Q i fuel listed l H := fun a w ha hw m => by
 refine wpOpIn_step hi (fun K hK => ?_)
 rw [if_pos (hW.D ha)]
 unfold Oper.wpIn
 refine ⟨fun _ _ => trivial, ?_⟩
 rw [Oper.semAt_plain _ _ _ (fun c hc => by rw [hc] at hnd; cases hnd), show (execOp (B.df a).eval o).run P w = _ from hv a w ha hw]
 show K ((B.df a).put o.dst v) w
 rw [hd]
 exact hK _ _ (by rw [Bs.df_put]; exact k _ _ (ha.put d v hn) hw m)
theorem joY2 {T : Type} {φ : T → Prop} {HH : T → List It} {ts : Array TypeId} {x y z : Operand} {lp d i : Nat} {v u : Value} (hi : ops[i]? = some o) (hY : ∀ W, Wd B H W → ∀ m, YieldAt Fence.wide m P lp #[v, u] W (fun e W2 => e = .returned (.bool true) ∧ ∃ t', φ t' ∧ Wd B (HH t') W2))
 (k : ∀ t', φ t' → JAi P n B ops Q fuel (listed.setIfInBounds i true) ((d, .bool true) :: l) (HH t')) (ho : o.op = .call { callee := .value x, args := #[y, z], argTypes := ts }) (hx : evl l x = some (.func (.yield lp) #[] #[])) (hy : evl l y = some v) (hz : evl l z = some u) (hd : o.dst = some d) (hW : WN ops n l o true) (hn : Nat.ble n d = false) : JOi P n B ops Q i fuel listed l H := fun a w ha hw m => by
 refine wpOpIn_step hi (fun K hK => ?_)
 rw [if_pos (hW.D ha)]
 obtain ⟨fn, tmps, assign, body, h1, h2⟩ := hY w hw (m - 1)
 have he : (execOp (B.df a).eval o).run P w = .ok (.round lp fn tmps assign body) w := by
  unfold execOp; rw [ho]
  simp only [resolve, ha.evD hx, List.map_toArray, List.map_cons, List.map_nil]
  simp [Deferred.ofValue, invoke, ha.evD hy, ha.evD hz, h1]
 unfold Oper.wpIn
 refine ⟨fun _ _ => trivial, ?_⟩
 rw [Oper.semAt_plain _ _ _ (fun c hc => by rw [ho] at hc; cases hc), he, Oper.uponIn_round]
 refine ⟨fun h => (by cases h), h2.mono ?_⟩
 rintro e W2 ⟨rfl, t', h3, h4⟩
 show K ((B.df a).put o.dst (.bool true)) W2
 rw [hd]
 exact hK _ _ (by rw [Bs.df_put]; exact k t' h3 _ _ (ha.put d _ hn) h4 m)
end
end Go.Proofs.YtmcpnoailbmkkaaGreatDoor
/- Closed facts of the program, as instances. -/
namespace Go.Proofs.YtmcpnoailbmkkaaGreatDoor
open Go Go.RowKit Go.Proofs

instance : Und Tryz.prog 3 (.int .i64) := ⟨by kernel_rfl⟩
instance : Und Tryz.prog 4 .bool := ⟨by kernel_rfl⟩
instance : Und Tryz.prog 5 (.int .u8) := ⟨by kernel_rfl⟩
instance : Und Tryz.prog 9 .string := ⟨by kernel_rfl⟩
instance : Und Tryz.prog 21 (.int .i32) := ⟨by kernel_rfl⟩
instance : Und Tryz.prog 24 (.slice 43) := ⟨by kernel_rfl⟩
instance : Und Tryz.prog 28 (.slice 175) := ⟨by kernel_rfl⟩
instance : Und Tryz.prog 34 (.slice 3) := ⟨by kernel_rfl⟩
instance : Und Tryz.prog 46 (.slice 4) := ⟨by kernel_rfl⟩
instance : Und Tryz.prog 47 (.slice 9) := ⟨by kernel_rfl⟩
instance : Und Tryz.prog 51 (.slice 112) := ⟨by kernel_rfl⟩
instance : Und Tryz.prog 62 (.slice 66) := ⟨by kernel_rfl⟩
instance : Und Tryz.prog 64 (.slice 26) := ⟨by kernel_rfl⟩
instance : Und Tryz.prog 67 (.slice 78) := ⟨by kernel_rfl⟩
instance : Und Tryz.prog 68 (.array 2 3) := ⟨by kernel_rfl⟩
instance : Und Tryz.prog 69 (.slice 85) := ⟨by kernel_rfl⟩
instance : Und Tryz.prog 72 (.array 2 4) := ⟨by kernel_rfl⟩
instance : Und Tryz.prog 83 (.slice 329) := ⟨by kernel_rfl⟩
instance : Und Tryz.prog 113 (.slice 5) := ⟨by kernel_rfl⟩
instance : Und Tryz.prog 117 (.map 9 4) := ⟨by kernel_rfl⟩
instance : Und Tryz.prog 118 (.map 9 3) := ⟨by kernel_rfl⟩
instance : Und Tryz.prog 160 (.map 159 43) := ⟨by kernel_rfl⟩
instance : Und Tryz.prog 169 (.slice 173) := ⟨by kernel_rfl⟩
instance : Und Tryz.prog 179 (.map 181 4) := ⟨by kernel_rfl⟩
instance : Und Tryz.prog 201 (.map 3 4) := ⟨by kernel_rfl⟩
instance : Und Tryz.prog 210 (.slice 211) := ⟨by kernel_rfl⟩
instance : Und Tryz.prog 221 (.slice 223) := ⟨by kernel_rfl⟩
instance : Und Tryz.prog 264 (.slice 269) := ⟨by kernel_rfl⟩
instance : Und Tryz.prog 275 (.int .u64) := ⟨by kernel_rfl⟩
instance : Und Tryz.prog 294 (.array 2 293) := ⟨by kernel_rfl⟩
instance : Und Tryz.prog 297 (.map 269 4) := ⟨by kernel_rfl⟩
instance : Und Tryz.prog 356 (.map 68 4) := ⟨by kernel_rfl⟩
instance : Siz Tryz.prog 3 1 := ⟨fun _ => by kernel_rfl⟩
instance : Siz Tryz.prog 4 1 := ⟨fun _ => by kernel_rfl⟩
instance : Siz Tryz.prog 9 1 := ⟨fun _ => by kernel_rfl⟩
instance : Siz Tryz.prog 23 5 := ⟨fun _ => by kernel_rfl⟩
instance : Siz Tryz.prog 24 1 := ⟨fun _ => by kernel_rfl⟩
instance : Siz Tryz.prog 26 6 := ⟨fun _ => by kernel_rfl⟩
instance : Siz Tryz.prog 28 1 := ⟨fun _ => by kernel_rfl⟩
instance : Siz Tryz.prog 30 3 := ⟨fun _ => by kernel_rfl⟩
instance : Siz Tryz.prog 31 1 := ⟨fun _ => by kernel_rfl⟩
instance : Siz Tryz.prog 34 1 := ⟨fun _ => by kernel_rfl⟩
instance : Siz Tryz.prog 39 1 := ⟨fun _ => by kernel_rfl⟩
instance : Siz Tryz.prog 41 2 := ⟨fun _ => by kernel_rfl⟩
instance : Siz Tryz.prog 43 4 := ⟨fun _ => by kernel_rfl⟩
instance : Siz Tryz.prog 47 1 := ⟨fun _ => by kernel_rfl⟩
instance : Siz Tryz.prog 51 1 := ⟨fun _ => by kernel_rfl⟩
instance : Siz Tryz.prog 61 5 := ⟨fun _ => by kernel_rfl⟩
instance : Siz Tryz.prog 64 1 := ⟨fun _ => by kernel_rfl⟩
instance : Siz Tryz.prog 66 2 := ⟨fun _ => by kernel_rfl⟩
instance : Siz Tryz.prog 67 1 := ⟨fun _ => by kernel_rfl⟩
instance : Siz Tryz.prog 68 2 := ⟨fun _ => by kernel_rfl⟩
instance : Siz Tryz.prog 69 1 := ⟨fun _ => by kernel_rfl⟩
instance : Siz Tryz.prog 71 8 := ⟨fun _ => by kernel_rfl⟩
instance : Siz Tryz.prog 74 9 := ⟨fun _ => by kernel_rfl⟩
instance : Siz Tryz.prog 78 3 := ⟨fun _ => by kernel_rfl⟩
instance : Siz Tryz.prog 83 1 := ⟨fun _ => by kernel_rfl⟩
instance : Siz Tryz.prog 85 2 := ⟨fun _ => by kernel_rfl⟩
instance : Siz Tryz.prog 88 6 := ⟨fun _ => by kernel_rfl⟩
instance : Siz Tryz.prog 100 7 := ⟨fun _ => by kernel_rfl⟩
instance : Siz Tryz.prog 107 1 := ⟨fun _ => by kernel_rfl⟩
instance : Siz Tryz.prog 108 1 := ⟨fun _ => by kernel_rfl⟩
instance : Siz Tryz.prog 112 6 := ⟨fun _ => by kernel_rfl⟩
instance : Siz Tryz.prog 117 1 := ⟨fun _ => by kernel_rfl⟩
instance : Siz Tryz.prog 118 1 := ⟨fun _ => by kernel_rfl⟩
instance : Siz Tryz.prog 130 14 := ⟨fun _ => by kernel_rfl⟩
instance : Siz Tryz.prog 146 1 := ⟨fun _ => by kernel_rfl⟩
instance : Siz Tryz.prog 159 2 := ⟨fun _ => by kernel_rfl⟩
instance : Siz Tryz.prog 167 9 := ⟨fun _ => by kernel_rfl⟩
instance : Siz Tryz.prog 171 1 := ⟨fun _ => by kernel_rfl⟩
instance : Siz Tryz.prog 173 2 := ⟨fun _ => by kernel_rfl⟩
instance : Siz Tryz.prog 175 2 := ⟨fun _ => by kernel_rfl⟩
instance : Siz Tryz.prog 181 2 := ⟨fun _ => by kernel_rfl⟩
instance : Siz Tryz.prog 185 2 := ⟨fun _ => by kernel_rfl⟩
instance : Siz Tryz.prog 201 1 := ⟨fun _ => by kernel_rfl⟩
instance : Siz Tryz.prog 202 1 := ⟨fun _ => by kernel_rfl⟩
instance : Siz Tryz.prog 207 1 := ⟨fun _ => by kernel_rfl⟩
instance : Siz Tryz.prog 211 1 := ⟨fun _ => by kernel_rfl⟩
instance : Siz Tryz.prog 215 1 := ⟨fun _ => by kernel_rfl⟩
instance : Siz Tryz.prog 223 1 := ⟨fun _ => by kernel_rfl⟩
instance : Siz Tryz.prog 238 1 := ⟨fun _ => by kernel_rfl⟩
instance : Siz Tryz.prog 244 256 := ⟨fun _ => by kernel_rfl⟩
instance : Siz Tryz.prog 260 1 := ⟨fun _ => by kernel_rfl⟩
instance : Siz Tryz.prog 269 2 := ⟨fun _ => by kernel_rfl⟩
instance : Siz Tryz.prog 293 1 := ⟨fun _ => by kernel_rfl⟩
instance : Siz Tryz.prog 294 2 := ⟨fun _ => by kernel_rfl⟩
instance : Siz Tryz.prog 297 1 := ⟨fun _ => by kernel_rfl⟩
instance : Siz Tryz.prog 329 3 := ⟨fun _ => by kernel_rfl⟩
instance : Agg Tryz.prog 3 false := ⟨fun _ => by kernel_rfl⟩
instance : Agg Tryz.prog 4 false := ⟨fun _ => by kernel_rfl⟩
instance : Agg Tryz.prog 9 false := ⟨fun _ => by kernel_rfl⟩
instance : Agg Tryz.prog 23 true := ⟨fun _ => by kernel_rfl⟩
instance : Agg Tryz.prog 24 false := ⟨fun _ => by kernel_rfl⟩
instance : Agg Tryz.prog 26 true := ⟨fun _ => by kernel_rfl⟩
instance : Agg Tryz.prog 28 false := ⟨fun _ => by kernel_rfl⟩
instance : Agg Tryz.prog 30 true := ⟨fun _ => by kernel_rfl⟩
instance : Agg Tryz.prog 31 false := ⟨fun _ => by kernel_rfl⟩
instance : Agg Tryz.prog 34 false := ⟨fun _ => by kernel_rfl⟩
instance : Agg Tryz.prog 39 false := ⟨fun _ => by kernel_rfl⟩
instance : Agg Tryz.prog 41 true := ⟨fun _ => by kernel_rfl⟩
instance : Agg Tryz.prog 43 true := ⟨fun _ => by kernel_rfl⟩
instance : Agg Tryz.prog 47 false := ⟨fun _ => by kernel_rfl⟩
instance : Agg Tryz.prog 51 false := ⟨fun _ => by kernel_rfl⟩
instance : Agg Tryz.prog 61 true := ⟨fun _ => by kernel_rfl⟩
instance : Agg Tryz.prog 64 false := ⟨fun _ => by kernel_rfl⟩
instance : Agg Tryz.prog 67 false := ⟨fun _ => by kernel_rfl⟩
instance : Agg Tryz.prog 68 true := ⟨fun _ => by kernel_rfl⟩
instance : Agg Tryz.prog 69 false := ⟨fun _ => by kernel_rfl⟩
instance : Agg Tryz.prog 71 true := ⟨fun _ => by kernel_rfl⟩
instance : Agg Tryz.prog 74 true := ⟨fun _ => by kernel_rfl⟩
instance : Agg Tryz.prog 78 true := ⟨fun _ => by kernel_rfl⟩
instance : Agg Tryz.prog 83 false := ⟨fun _ => by kernel_rfl⟩
instance : Agg Tryz.prog 85 true := ⟨fun _ => by kernel_rfl⟩
instance : Agg Tryz.prog 88 true := ⟨fun _ => by kernel_rfl⟩
instance : Agg Tryz.prog 100 true := ⟨fun _ => by kernel_rfl⟩
instance : Agg Tryz.prog 107 false := ⟨fun _ => by kernel_rfl⟩
instance : Agg Tryz.prog 108 false := ⟨fun _ => by kernel_rfl⟩
instance : Agg Tryz.prog 112 true := ⟨fun _ => by kernel_rfl⟩
instance : Agg Tryz.prog 117 false := ⟨fun _ => by kernel_rfl⟩
instance : Agg Tryz.prog 118 false := ⟨fun _ => by kernel_rfl⟩
instance : Agg Tryz.prog 146 false := ⟨fun _ => by kernel_rfl⟩
instance : Agg Tryz.prog 159 true := ⟨fun _ => by kernel_rfl⟩
instance : Agg Tryz.prog 167 true := ⟨fun _ => by kernel_rfl⟩
instance : Agg Tryz.prog 171 false := ⟨fun _ => by kernel_rfl⟩
instance : Agg Tryz.prog 173 true := ⟨fun _ => by kernel_rfl⟩
instance : Agg Tryz.prog 175 true := ⟨fun _ => by kernel_rfl⟩
instance : Agg Tryz.prog 181 true := ⟨fun _ => by kernel_rfl⟩
instance : Agg Tryz.prog 201 false := ⟨fun _ => by kernel_rfl⟩
instance : Agg Tryz.prog 202 false := ⟨fun _ => by kernel_rfl⟩
instance : Agg Tryz.prog 207 false := ⟨fun _ => by kernel_rfl⟩
instance : Agg Tryz.prog 211 false := ⟨fun _ => by kernel_rfl⟩
instance : Agg Tryz.prog 215 false := ⟨fun _ => by kernel_rfl⟩
instance : Agg Tryz.prog 223 false := ⟨fun _ => by kernel_rfl⟩
instance : Agg Tryz.prog 238 false := ⟨fun _ => by kernel_rfl⟩
instance : Agg Tryz.prog 260 false := ⟨fun _ => by kernel_rfl⟩
instance : Agg Tryz.prog 269 true := ⟨fun _ => by kernel_rfl⟩
instance : Agg Tryz.prog 293 false := ⟨fun _ => by kernel_rfl⟩
instance : Agg Tryz.prog 294 true := ⟨fun _ => by kernel_rfl⟩
instance : Agg Tryz.prog 297 false := ⟨fun _ => by kernel_rfl⟩
instance : Agg Tryz.prog 329 true := ⟨fun _ => by kernel_rfl⟩
instance : Zer Tryz.prog 3 (.int .i64 0) := ⟨fun _ => by kernel_rfl⟩
instance : Zer Tryz.prog 4 (.bool false) := ⟨fun _ => by kernel_rfl⟩
instance : Zer Tryz.prog 24 (.slice none 0 0) := ⟨fun _ => by kernel_rfl⟩
instance : Zer Tryz.prog 26 (.agg #[.int .i64 0, .int .i64 0, .bool false, .bool false, .int .i64 0, .slice none 0 0]) := ⟨fun _ => by kernel_rfl⟩
instance : Zer Tryz.prog 30 (.agg #[.int .i64 0, .int .i64 0, .slice none 0 0]) := ⟨fun _ => by kernel_rfl⟩
instance : Zer Tryz.prog 31 (.int .i64 0) := ⟨fun _ => by kernel_rfl⟩
instance : Zer Tryz.prog 34 (.slice none 0 0) := ⟨fun _ => by kernel_rfl⟩
instance : Zer Tryz.prog 43 (.agg #[.int .i64 0, .int .i64 0, .int .i64 0, .int .i64 0]) := ⟨fun _ => by kernel_rfl⟩
instance : Zer Tryz.prog 47 (.slice none 0 0) := ⟨fun _ => by kernel_rfl⟩
instance : Zer Tryz.prog 68 (.agg #[.int .i64 0, .int .i64 0]) := ⟨fun _ => by kernel_rfl⟩
instance : Zer Tryz.prog 71 (.agg #[.int .i64 0, .int .i64 0, .int .i64 0, .slice none 0 0, .int .i64 0, .int .i64 0, .int .i64 0, .slice none 0 0]) := ⟨fun _ => by kernel_rfl⟩
instance : Zer Tryz.prog 74 (.agg #[.int .i64 0, .int .i64 0, .int .i64 0, .int .i64 0, .int .i64 0, .bool false, .bool false, .bool false, .bool false]) := ⟨fun _ => by kernel_rfl⟩
instance : Zer Tryz.prog 78 (.agg #[.int .i64 0, .int .i64 0, .bool false]) := ⟨fun _ => by kernel_rfl⟩
instance : Zer Tryz.prog 85 (.agg #[.string ⟨#[]⟩, .slice none 0 0]) := ⟨fun _ => by kernel_rfl⟩
instance : Zer Tryz.prog 88 (.agg #[.int .i64 0, .int .i64 0, .int .i64 0, .int .i64 0, .int .i64 0, .int .i64 0]) := ⟨fun _ => by kernel_rfl⟩
instance : Zer Tryz.prog 100 (.agg #[.int .i64 0, .int .i64 0, .int .i64 0, .int .i64 0, .bool false, .int .i64 0, .int .i64 0]) := ⟨fun _ => by kernel_rfl⟩
instance : Zer Tryz.prog 107 (.pointer none) := ⟨fun _ => by kernel_rfl⟩
instance : Zer Tryz.prog 112 (.agg #[.string ⟨#[]⟩, .int .i64 0, .int .i64 0, .slice none 0 0, .slice none 0 0, .string ⟨#[]⟩]) := ⟨fun _ => by kernel_rfl⟩
instance : Zer Tryz.prog 130 (.agg #[.int .i64 0, .int .i64 0, .int .i64 0, .int .i64 0, .int .i64 0, .bool false, .bool false, .bool false, .bool false, .int .i64 0, .int .i64 0, .int .i64 0, .bool false, .bool false]) := ⟨fun _ => by kernel_rfl⟩
instance : Zer Tryz.prog 144 (.agg #[.pointer none, .slice none 0 0]) := ⟨fun _ => by kernel_rfl⟩
instance : Zer Tryz.prog 159 (.agg #[.int .i64 0, .int .i64 0]) := ⟨fun _ => by kernel_rfl⟩
instance : Zer Tryz.prog 167 (.agg #[.int .i64 0, .int .i64 0, .bool false, .bool false, .int .i64 0, .slice none 0 0, .bool false, .bool false, .bool false]) := ⟨fun _ => by kernel_rfl⟩
instance : Zer Tryz.prog 173 (.agg #[.int .i64 0, .nilFunc]) := ⟨fun _ => by kernel_rfl⟩
instance : Zer Tryz.prog 175 (.agg #[.slice none 0 0, .bool false]) := ⟨fun _ => by kernel_rfl⟩
instance : Zer Tryz.prog 181 (.agg #[.int .i64 0, .int .i64 0]) := ⟨fun _ => by kernel_rfl⟩
instance : Zer Tryz.prog 185 (.agg #[.int .i64 0, .int .i64 0]) := ⟨fun _ => by kernel_rfl⟩
instance : Zer Tryz.prog 201 (.map none) := ⟨fun _ => by kernel_rfl⟩
instance : Zer Tryz.prog 202 (.nilFunc) := ⟨fun _ => by kernel_rfl⟩
instance : Zer Tryz.prog 244 (.agg #[.bool false, .bool false, .bool false, .bool false, .bool false, .bool false, .bool false, .bool false, .bool false, .bool false, .bool false, .bool false, .bool false, .bool false, .bool false, .bool false, .bool false, .bool false, .bool false, .bool false, .bool false, .bool false, .bool false, .bool false, .bool false, .bool false, .bool false, .bool false, .bool false, .bool false, .bool false, .bool false, .bool false, .bool false, .bool false, .bool false, .bool false, .bool false, .bool false, .bool false, .bool false, .bool false, .bool false, .bool false, .bool false, .bool false, .bool false, .bool false, .bool false, .bool false, .bool false, .bool false, .bool false, .bool false, .bool false, .bool false, .bool false, .bool false, .bool false, .bool false, .bool false, .bool false, .bool false, .bool false, .bool false, .bool false, .bool false, .bool false, .bool false, .bool false, .bool false, .bool false, .bool false, .bool false, .bool false, .bool false, .bool false, .bool false, .bool false, .bool false, .bool false, .bool false, .bool false, .bool false, .bool false, .bool false, .bool false, .bool false, .bool false, .bool false, .bool false, .bool false, .bool false, .bool false, .bool false, .bool false, .bool false, .bool false, .bool false, .bool false, .bool false, .bool false, .bool false, .bool false, .bool false, .bool false, .bool false, .bool false, .bool false, .bool false, .bool false, .bool false, .bool false, .bool false, .bool false, .bool false, .bool false, .bool false, .bool false, .bool false, .bool false, .bool false, .bool false, .bool false, .bool false, .bool false, .bool false, .bool false, .bool false, .bool false, .bool false, .bool false, .bool false, .bool false, .bool false, .bool false, .bool false, .bool false, .bool false, .bool false, .bool false, .bool false, .bool false, .bool false, .bool false, .bool false, .bool false, .bool false, .bool false, .bool false, .bool false, .bool false, .bool false, .bool false, .bool false, .bool false, .bool false, .bool false, .bool false, .bool false, .bool false, .bool false, .bool false, .bool false, .bool false, .bool false, .bool false, .bool false, .bool false, .bool false, .bool false, .bool false, .bool false, .bool false, .bool false, .bool false, .bool false, .bool false, .bool false, .bool false, .bool false, .bool false, .bool false, .bool false, .bool false, .bool false, .bool false, .bool false, .bool false, .bool false, .bool false, .bool false, .bool false, .bool false, .bool false, .bool false, .bool false, .bool false, .bool false, .bool false, .bool false, .bool false, .bool false, .bool false, .bool false, .bool false, .bool false, .bool false, .bool false, .bool false, .bool false, .bool false, .bool false, .bool false, .bool false, .bool false, .bool false, .bool false, .bool false, .bool false, .bool false, .bool false, .bool false, .bool false, .bool false, .bool false, .bool false, .bool false, .bool false, .bool false, .bool false, .bool false, .bool false, .bool false, .bool false, .bool false, .bool false, .bool false, .bool false, .bool false, .bool false, .bool false, .bool false, .bool false, .bool false, .bool false, .bool false, .bool false, .bool false, .bool false, .bool false, .bool false, .bool false, .bool false, .bool false, .bool false]) := ⟨fun _ => by kernel_rfl⟩
instance : Zer Tryz.prog 260 (.nilFunc) := ⟨fun _ => by kernel_rfl⟩
instance : Zer Tryz.prog 269 (.agg #[.int .i64 0, .int .i64 0]) := ⟨fun _ => by kernel_rfl⟩
instance : Zer Tryz.prog 297 (.map none) := ⟨fun _ => by kernel_rfl⟩
instance : Zer Tryz.prog 329 (.agg #[.int .i64 0, .int .i64 0, .int .i64 0]) := ⟨fun _ => by kernel_rfl⟩
instance : Fof Tryz.prog 23 0 0 := ⟨fun _ _ _ => by kernel_rfl⟩
instance : Fof Tryz.prog 23 1 1 := ⟨fun _ _ _ => by kernel_rfl⟩
instance : Fof Tryz.prog 23 2 2 := ⟨fun _ _ _ => by kernel_rfl⟩
instance : Fof Tryz.prog 23 3 3 := ⟨fun _ _ _ => by kernel_rfl⟩
instance : Fof Tryz.prog 23 4 4 := ⟨fun _ _ _ => by kernel_rfl⟩
instance : Fof Tryz.prog 26 0 0 := ⟨fun _ _ _ => by kernel_rfl⟩
instance : Fof Tryz.prog 26 1 1 := ⟨fun _ _ _ => by kernel_rfl⟩
instance : Fof Tryz.prog 26 2 2 := ⟨fun _ _ _ => by kernel_rfl⟩
instance : Fof Tryz.prog 26 3 3 := ⟨fun _ _ _ => by kernel_rfl⟩
instance : Fof Tryz.prog 26 4 4 := ⟨fun _ _ _ => by kernel_rfl⟩
instance : Fof Tryz.prog 26 5 5 := ⟨fun _ _ _ => by kernel_rfl⟩
instance : Fof Tryz.prog 30 0 0 := ⟨fun _ _ _ => by kernel_rfl⟩
instance : Fof Tryz.prog 30 1 1 := ⟨fun _ _ _ => by kernel_rfl⟩
instance : Fof Tryz.prog 30 2 2 := ⟨fun _ _ _ => by kernel_rfl⟩
instance : Fof Tryz.prog 41 0 0 := ⟨fun _ _ _ => by kernel_rfl⟩
instance : Fof Tryz.prog 41 1 1 := ⟨fun _ _ _ => by kernel_rfl⟩
instance : Fof Tryz.prog 43 0 0 := ⟨fun _ _ _ => by kernel_rfl⟩
instance : Fof Tryz.prog 43 1 1 := ⟨fun _ _ _ => by kernel_rfl⟩
instance : Fof Tryz.prog 43 2 2 := ⟨fun _ _ _ => by kernel_rfl⟩
instance : Fof Tryz.prog 61 0 0 := ⟨fun _ _ _ => by kernel_rfl⟩
instance : Fof Tryz.prog 61 1 1 := ⟨fun _ _ _ => by kernel_rfl⟩
instance : Fof Tryz.prog 61 2 2 := ⟨fun _ _ _ => by kernel_rfl⟩
instance : Fof Tryz.prog 61 3 3 := ⟨fun _ _ _ => by kernel_rfl⟩
instance : Fof Tryz.prog 61 4 4 := ⟨fun _ _ _ => by kernel_rfl⟩
instance : Fof Tryz.prog 66 0 0 := ⟨fun _ _ _ => by kernel_rfl⟩
instance : Fof Tryz.prog 66 1 1 := ⟨fun _ _ _ => by kernel_rfl⟩
instance : Fof Tryz.prog 71 0 0 := ⟨fun _ _ _ => by kernel_rfl⟩
instance : Fof Tryz.prog 71 1 1 := ⟨fun _ _ _ => by kernel_rfl⟩
instance : Fof Tryz.prog 71 2 2 := ⟨fun _ _ _ => by kernel_rfl⟩
instance : Fof Tryz.prog 71 3 3 := ⟨fun _ _ _ => by kernel_rfl⟩
instance : Fof Tryz.prog 71 4 4 := ⟨fun _ _ _ => by kernel_rfl⟩
instance : Fof Tryz.prog 71 5 5 := ⟨fun _ _ _ => by kernel_rfl⟩
instance : Fof Tryz.prog 71 6 7 := ⟨fun _ _ _ => by kernel_rfl⟩
instance : Fof Tryz.prog 74 0 0 := ⟨fun _ _ _ => by kernel_rfl⟩
instance : Fof Tryz.prog 74 1 2 := ⟨fun _ _ _ => by kernel_rfl⟩
instance : Fof Tryz.prog 74 2 3 := ⟨fun _ _ _ => by kernel_rfl⟩
instance : Fof Tryz.prog 74 3 4 := ⟨fun _ _ _ => by kernel_rfl⟩
instance : Fof Tryz.prog 74 4 5 := ⟨fun _ _ _ => by kernel_rfl⟩
instance : Fof Tryz.prog 74 5 6 := ⟨fun _ _ _ => by kernel_rfl⟩
instance : Fof Tryz.prog 74 6 7 := ⟨fun _ _ _ => by kernel_rfl⟩
instance : Fof Tryz.prog 78 0 0 := ⟨fun _ _ _ => by kernel_rfl⟩
instance : Fof Tryz.prog 78 1 1 := ⟨fun _ _ _ => by kernel_rfl⟩
instance : Fof Tryz.prog 78 2 2 := ⟨fun _ _ _ => by kernel_rfl⟩
instance : Fof Tryz.prog 85 0 0 := ⟨fun _ _ _ => by kernel_rfl⟩
instance : Fof Tryz.prog 85 1 1 := ⟨fun _ _ _ => by kernel_rfl⟩
instance : Fof Tryz.prog 88 2 2 := ⟨fun _ _ _ => by kernel_rfl⟩
instance : Fof Tryz.prog 100 0 0 := ⟨fun _ _ _ => by kernel_rfl⟩
instance : Fof Tryz.prog 100 1 5 := ⟨fun _ _ _ => by kernel_rfl⟩
instance : Fof Tryz.prog 100 2 6 := ⟨fun _ _ _ => by kernel_rfl⟩
instance : Fof Tryz.prog 112 0 0 := ⟨fun _ _ _ => by kernel_rfl⟩
instance : Fof Tryz.prog 112 1 1 := ⟨fun _ _ _ => by kernel_rfl⟩
instance : Fof Tryz.prog 112 2 2 := ⟨fun _ _ _ => by kernel_rfl⟩
instance : Fof Tryz.prog 112 3 3 := ⟨fun _ _ _ => by kernel_rfl⟩
instance : Fof Tryz.prog 112 4 4 := ⟨fun _ _ _ => by kernel_rfl⟩
instance : Fof Tryz.prog 112 5 5 := ⟨fun _ _ _ => by kernel_rfl⟩
instance : Fof Tryz.prog 120 0 0 := ⟨fun _ _ _ => by kernel_rfl⟩
instance : Fof Tryz.prog 120 1 1 := ⟨fun _ _ _ => by kernel_rfl⟩
instance : Fof Tryz.prog 120 2 2 := ⟨fun _ _ _ => by kernel_rfl⟩
instance : Fof Tryz.prog 120 3 3 := ⟨fun _ _ _ => by kernel_rfl⟩
instance : Fof Tryz.prog 120 4 4 := ⟨fun _ _ _ => by kernel_rfl⟩
instance : Fof Tryz.prog 120 5 5 := ⟨fun _ _ _ => by kernel_rfl⟩
instance : Fof Tryz.prog 130 0 0 := ⟨fun _ _ _ => by kernel_rfl⟩
instance : Fof Tryz.prog 130 1 9 := ⟨fun _ _ _ => by kernel_rfl⟩
instance : Fof Tryz.prog 167 0 0 := ⟨fun _ _ _ => by kernel_rfl⟩
instance : Fof Tryz.prog 167 1 6 := ⟨fun _ _ _ => by kernel_rfl⟩
instance : Fof Tryz.prog 167 2 7 := ⟨fun _ _ _ => by kernel_rfl⟩
instance : Fof Tryz.prog 167 3 8 := ⟨fun _ _ _ => by kernel_rfl⟩
instance : Fof Tryz.prog 173 0 0 := ⟨fun _ _ _ => by kernel_rfl⟩
instance : Fof Tryz.prog 173 1 1 := ⟨fun _ _ _ => by kernel_rfl⟩
instance : Fof Tryz.prog 175 0 0 := ⟨fun _ _ _ => by kernel_rfl⟩
instance : Fof Tryz.prog 175 1 1 := ⟨fun _ _ _ => by kernel_rfl⟩
instance : Fof Tryz.prog 185 0 0 := ⟨fun _ _ _ => by kernel_rfl⟩
instance : Fof Tryz.prog 185 1 1 := ⟨fun _ _ _ => by kernel_rfl⟩
instance : Fof Tryz.prog 189 0 0 := ⟨fun _ _ _ => by kernel_rfl⟩
instance : Fof Tryz.prog 189 1 1 := ⟨fun _ _ _ => by kernel_rfl⟩
instance : Fof Tryz.prog 189 2 2 := ⟨fun _ _ _ => by kernel_rfl⟩
instance : Fof Tryz.prog 217 0 0 := ⟨fun _ _ _ => by kernel_rfl⟩
instance : Fof Tryz.prog 217 1 5 := ⟨fun _ _ _ => by kernel_rfl⟩
instance : Fof Tryz.prog 217 2 6 := ⟨fun _ _ _ => by kernel_rfl⟩
instance : Fof Tryz.prog 217 3 7 := ⟨fun _ _ _ => by kernel_rfl⟩
instance : Fof Tryz.prog 217 4 8 := ⟨fun _ _ _ => by kernel_rfl⟩
instance : Fof Tryz.prog 217 5 9 := ⟨fun _ _ _ => by kernel_rfl⟩
instance : Fof Tryz.prog 269 0 0 := ⟨fun _ _ _ => by kernel_rfl⟩
instance : Fof Tryz.prog 269 1 1 := ⟨fun _ _ _ => by kernel_rfl⟩
instance : Fof Tryz.prog 329 0 0 := ⟨fun _ _ _ => by kernel_rfl⟩
instance : Fof Tryz.prog 329 1 1 := ⟨fun _ _ _ => by kernel_rfl⟩
instance : Fof Tryz.prog 329 2 2 := ⟨fun _ _ _ => by kernel_rfl⟩
instance : Inf Tryz.prog 3 (.int .i64 0) 1 8 := ⟨by kernel_rfl⟩
instance : Inf Tryz.prog 9 (.string ⟨#[]⟩) 1 16 := ⟨by kernel_rfl⟩
instance : Inf Tryz.prog 43 (.agg #[.int .i64 0, .int .i64 0, .int .i64 0, .int .i64 0]) 4 32 := ⟨by kernel_rfl⟩
instance : Inf Tryz.prog 78 (.agg #[.int .i64 0, .int .i64 0, .bool false]) 3 24 := ⟨by kernel_rfl⟩
instance : Inf Tryz.prog 85 (.agg #[.string ⟨#[]⟩, .slice none 0 0]) 2 40 := ⟨by kernel_rfl⟩
instance : Inf Tryz.prog 112 (.agg #[.string ⟨#[]⟩, .int .i64 0, .int .i64 0, .slice none 0 0, .slice none 0 0, .string ⟨#[]⟩]) 6 96 := ⟨by kernel_rfl⟩
instance : Inf Tryz.prog 175 (.agg #[.slice none 0 0, .bool false]) 2 32 := ⟨by kernel_rfl⟩
instance : Inf Tryz.prog 269 (.agg #[.int .i64 0, .int .i64 0]) 2 16 := ⟨by kernel_rfl⟩
instance : Inf Tryz.prog 329 (.agg #[.int .i64 0, .int .i64 0, .int .i64 0]) 3 24 := ⟨by kernel_rfl⟩
instance : Cf Tryz.prog 5 := ⟨fun _ _ => by kernel_rfl⟩
instance : Cf Tryz.prog 6 := ⟨fun _ _ => by kernel_rfl⟩
instance : Cf Tryz.prog 7 := ⟨fun _ _ => by kernel_rfl⟩
instance : Cf Tryz.prog 8 := ⟨fun _ _ => by kernel_rfl⟩
instance : Cf Tryz.prog 9 := ⟨fun _ _ => by kernel_rfl⟩
instance : Cf Tryz.prog 10 := ⟨fun _ _ => by kernel_rfl⟩
instance : Cf Tryz.prog 11 := ⟨fun _ _ => by kernel_rfl⟩
instance : Cf Tryz.prog 12 := ⟨fun _ _ => by kernel_rfl⟩
instance : Cf Tryz.prog 13 := ⟨fun _ _ => by kernel_rfl⟩
instance : Cf Tryz.prog 14 := ⟨fun _ _ => by kernel_rfl⟩
instance : Cf Tryz.prog 15 := ⟨fun _ _ => by kernel_rfl⟩
instance : Cf Tryz.prog 16 := ⟨fun _ _ => by kernel_rfl⟩
instance : Cf Tryz.prog 17 := ⟨fun _ _ => by kernel_rfl⟩
instance : Cf Tryz.prog 18 := ⟨fun _ _ => by kernel_rfl⟩
instance : Cf Tryz.prog 19 := ⟨fun _ _ => by kernel_rfl⟩
instance : Cf Tryz.prog 20 := ⟨fun _ _ => by kernel_rfl⟩
instance : Cf Tryz.prog 21 := ⟨fun _ _ => by kernel_rfl⟩
instance : Cf Tryz.prog 22 := ⟨fun _ _ => by kernel_rfl⟩
instance : Cf Tryz.prog 23 := ⟨fun _ _ => by kernel_rfl⟩
instance : Cf Tryz.prog 24 := ⟨fun _ _ => by kernel_rfl⟩
instance : Cf Tryz.prog 25 := ⟨fun _ _ => by kernel_rfl⟩
instance : Cf Tryz.prog 26 := ⟨fun _ _ => by kernel_rfl⟩
instance : Cf Tryz.prog 27 := ⟨fun _ _ => by kernel_rfl⟩
instance : Cf Tryz.prog 28 := ⟨fun _ _ => by kernel_rfl⟩
instance : Cf Tryz.prog 29 := ⟨fun _ _ => by kernel_rfl⟩
instance : Cf Tryz.prog 30 := ⟨fun _ _ => by kernel_rfl⟩
instance : Cf Tryz.prog 31 := ⟨fun _ _ => by kernel_rfl⟩
instance : Cf Tryz.prog 32 := ⟨fun _ _ => by kernel_rfl⟩
instance : Cf Tryz.prog 33 := ⟨fun _ _ => by kernel_rfl⟩
instance : Cf Tryz.prog 34 := ⟨fun _ _ => by kernel_rfl⟩
instance : Cf Tryz.prog 35 := ⟨fun _ _ => by kernel_rfl⟩
instance : Cf Tryz.prog 36 := ⟨fun _ _ => by kernel_rfl⟩
instance : Cf Tryz.prog 37 := ⟨fun _ _ => by kernel_rfl⟩
instance : Cf Tryz.prog 38 := ⟨fun _ _ => by kernel_rfl⟩
instance : Cf Tryz.prog 39 := ⟨fun _ _ => by kernel_rfl⟩
instance : Cf Tryz.prog 40 := ⟨fun _ _ => by kernel_rfl⟩
instance : Cf Tryz.prog 41 := ⟨fun _ _ => by kernel_rfl⟩
instance : Cf Tryz.prog 42 := ⟨fun _ _ => by kernel_rfl⟩
instance : Cf Tryz.prog 43 := ⟨fun _ _ => by kernel_rfl⟩
instance : Cf Tryz.prog 44 := ⟨fun _ _ => by kernel_rfl⟩
instance : Cf Tryz.prog 45 := ⟨fun _ _ => by kernel_rfl⟩
instance : Cf Tryz.prog 46 := ⟨fun _ _ => by kernel_rfl⟩
instance : Cf Tryz.prog 47 := ⟨fun _ _ => by kernel_rfl⟩
instance : Cf Tryz.prog 48 := ⟨fun _ _ => by kernel_rfl⟩
instance : Cf Tryz.prog 49 := ⟨fun _ _ => by kernel_rfl⟩
instance : Cf Tryz.prog 50 := ⟨fun _ _ => by kernel_rfl⟩
instance : Cf Tryz.prog 51 := ⟨fun _ _ => by kernel_rfl⟩
instance : Cf Tryz.prog 52 := ⟨fun _ _ => by kernel_rfl⟩
instance : Cf Tryz.prog 53 := ⟨fun _ _ => by kernel_rfl⟩
instance : Cf Tryz.prog 54 := ⟨fun _ _ => by kernel_rfl⟩
instance : Cf Tryz.prog 55 := ⟨fun _ _ => by kernel_rfl⟩
instance : Cf Tryz.prog 56 := ⟨fun _ _ => by kernel_rfl⟩
instance : Cf Tryz.prog 57 := ⟨fun _ _ => by kernel_rfl⟩
instance : Cf Tryz.prog 58 := ⟨fun _ _ => by kernel_rfl⟩
instance : Cf Tryz.prog 59 := ⟨fun _ _ => by kernel_rfl⟩
instance : Cf Tryz.prog 60 := ⟨fun _ _ => by kernel_rfl⟩
instance : Cf Tryz.prog 61 := ⟨fun _ _ => by kernel_rfl⟩
instance : Cf Tryz.prog 62 := ⟨fun _ _ => by kernel_rfl⟩
instance : Cf Tryz.prog 63 := ⟨fun _ _ => by kernel_rfl⟩
instance : Cf Tryz.prog 64 := ⟨fun _ _ => by kernel_rfl⟩
instance : Cf Tryz.prog 65 := ⟨fun _ _ => by kernel_rfl⟩
instance : Cf Tryz.prog 66 := ⟨fun _ _ => by kernel_rfl⟩
instance : Cf Tryz.prog 67 := ⟨fun _ _ => by kernel_rfl⟩
instance : Cf Tryz.prog 68 := ⟨fun _ _ => by kernel_rfl⟩
instance : Cf Tryz.prog 69 := ⟨fun _ _ => by kernel_rfl⟩
instance : Cf Tryz.prog 70 := ⟨fun _ _ => by kernel_rfl⟩
instance : Cf Tryz.prog 71 := ⟨fun _ _ => by kernel_rfl⟩
instance : Cf Tryz.prog 72 := ⟨fun _ _ => by kernel_rfl⟩
instance : Cf Tryz.prog 73 := ⟨fun _ _ => by kernel_rfl⟩
instance : Cf Tryz.prog 74 := ⟨fun _ _ => by kernel_rfl⟩
instance : Cf Tryz.prog 75 := ⟨fun _ _ => by kernel_rfl⟩
instance : Cf Tryz.prog 76 := ⟨fun _ _ => by kernel_rfl⟩
instance : Cf Tryz.prog 78 := ⟨fun _ _ => by kernel_rfl⟩
instance : Cf Tryz.prog 79 := ⟨fun _ _ => by kernel_rfl⟩
instance : Cf Tryz.prog 80 := ⟨fun _ _ => by kernel_rfl⟩
instance : Cf Tryz.prog 81 := ⟨fun _ _ => by kernel_rfl⟩
instance : Cf Tryz.prog 82 := ⟨fun _ _ => by kernel_rfl⟩
instance : Cf Tryz.prog 83 := ⟨fun _ _ => by kernel_rfl⟩
instance : Cf Tryz.prog 84 := ⟨fun _ _ => by kernel_rfl⟩
instance : Cf Tryz.prog 85 := ⟨fun _ _ => by kernel_rfl⟩
instance : Cf Tryz.prog 86 := ⟨fun _ _ => by kernel_rfl⟩
instance : Cf Tryz.prog 87 := ⟨fun _ _ => by kernel_rfl⟩
instance : Cf Tryz.prog 88 := ⟨fun _ _ => by kernel_rfl⟩
instance : Cf Tryz.prog 89 := ⟨fun _ _ => by kernel_rfl⟩
instance : Cf Tryz.prog 90 := ⟨fun _ _ => by kernel_rfl⟩
instance : Cf Tryz.prog 91 := ⟨fun _ _ => by kernel_rfl⟩
instance : Cf Tryz.prog 92 := ⟨fun _ _ => by kernel_rfl⟩
instance : Cf Tryz.prog 93 := ⟨fun _ _ => by kernel_rfl⟩
instance : Cf Tryz.prog 94 := ⟨fun _ _ => by kernel_rfl⟩
instance : Cf Tryz.prog 95 := ⟨fun _ _ => by kernel_rfl⟩
instance : Cf Tryz.prog 96 := ⟨fun _ _ => by kernel_rfl⟩
instance : Cf Tryz.prog 97 := ⟨fun _ _ => by kernel_rfl⟩
instance : Cf Tryz.prog 98 := ⟨fun _ _ => by kernel_rfl⟩
instance : Cf Tryz.prog 99 := ⟨fun _ _ => by kernel_rfl⟩
instance : Cf Tryz.prog 100 := ⟨fun _ _ => by kernel_rfl⟩
instance : Cf Tryz.prog 101 := ⟨fun _ _ => by kernel_rfl⟩
instance : Cf Tryz.prog 102 := ⟨fun _ _ => by kernel_rfl⟩
instance : Cf Tryz.prog 103 := ⟨fun _ _ => by kernel_rfl⟩
instance : Cf Tryz.prog 104 := ⟨fun _ _ => by kernel_rfl⟩
instance : Cf Tryz.prog 105 := ⟨fun _ _ => by kernel_rfl⟩
instance : Cf Tryz.prog 106 := ⟨fun _ _ => by kernel_rfl⟩
instance : Cf Tryz.prog 107 := ⟨fun _ _ => by kernel_rfl⟩
instance : Cf Tryz.prog 108 := ⟨fun _ _ => by kernel_rfl⟩
instance : Cf Tryz.prog 110 := ⟨fun _ _ => by kernel_rfl⟩
instance : Cf Tryz.prog 111 := ⟨fun _ _ => by kernel_rfl⟩
instance : Cf Tryz.prog 112 := ⟨fun _ _ => by kernel_rfl⟩
instance : Cf Tryz.prog 113 := ⟨fun _ _ => by kernel_rfl⟩
instance : Cf Tryz.prog 114 := ⟨fun _ _ => by kernel_rfl⟩
instance : Cf Tryz.prog 115 := ⟨fun _ _ => by kernel_rfl⟩
instance : Cf Tryz.prog 116 := ⟨fun _ _ => by kernel_rfl⟩
instance : Cf Tryz.prog 117 := ⟨fun _ _ => by kernel_rfl⟩
instance : Cf Tryz.prog 118 := ⟨fun _ _ => by kernel_rfl⟩
instance : Cf Tryz.prog 119 := ⟨fun _ _ => by kernel_rfl⟩
instance : Cf Tryz.prog 122 := ⟨fun _ _ => by kernel_rfl⟩
instance : Cf Tryz.prog 128 := ⟨fun _ _ => by kernel_rfl⟩
instance : Cf Tryz.prog 129 := ⟨fun _ _ => by kernel_rfl⟩
instance : Cf Tryz.prog 130 := ⟨fun _ _ => by kernel_rfl⟩
instance : Cf Tryz.prog 131 := ⟨fun _ _ => by kernel_rfl⟩
instance : Cf Tryz.prog 133 := ⟨fun _ _ => by kernel_rfl⟩
instance : Cf Tryz.prog 134 := ⟨fun _ _ => by kernel_rfl⟩
instance : Cf Tryz.prog 135 := ⟨fun _ _ => by kernel_rfl⟩
instance : Cf Tryz.prog 136 := ⟨fun _ _ => by kernel_rfl⟩
instance : Cf Tryz.prog 137 := ⟨fun _ _ => by kernel_rfl⟩
instance : Cf Tryz.prog 140 := ⟨fun _ _ => by kernel_rfl⟩
instance : Cf Tryz.prog 141 := ⟨fun _ _ => by kernel_rfl⟩
instance : Cf Tryz.prog 142 := ⟨fun _ _ => by kernel_rfl⟩
instance : Cf Tryz.prog 143 := ⟨fun _ _ => by kernel_rfl⟩
instance : Cf Tryz.prog 144 := ⟨fun _ _ => by kernel_rfl⟩
instance : Cf Tryz.prog 145 := ⟨fun _ _ => by kernel_rfl⟩
instance : Cf Tryz.prog 146 := ⟨fun _ _ => by kernel_rfl⟩
instance : Cf Tryz.prog 147 := ⟨fun _ _ => by kernel_rfl⟩
instance : Cf Tryz.prog 149 := ⟨fun _ _ => by kernel_rfl⟩
instance : Cf Tryz.prog 150 := ⟨fun _ _ => by kernel_rfl⟩
instance : Cf Tryz.prog 153 := ⟨fun _ _ => by kernel_rfl⟩
instance : Cf Tryz.prog 154 := ⟨fun _ _ => by kernel_rfl⟩
instance : Cf Tryz.prog 155 := ⟨fun _ _ => by kernel_rfl⟩
instance : Cf Tryz.prog 162 := ⟨fun _ _ => by kernel_rfl⟩
instance : Cf Tryz.prog 163 := ⟨fun _ _ => by kernel_rfl⟩
instance : Cf Tryz.prog 164 := ⟨fun _ _ => by kernel_rfl⟩
instance : Cf Tryz.prog 165 := ⟨fun _ _ => by kernel_rfl⟩
instance : Cf Tryz.prog 166 := ⟨fun _ _ => by kernel_rfl⟩
instance : Cf Tryz.prog 167 := ⟨fun _ _ => by kernel_rfl⟩
instance : Cf Tryz.prog 168 := ⟨fun _ _ => by kernel_rfl⟩
instance : Cf Tryz.prog 169 := ⟨fun _ _ => by kernel_rfl⟩
instance : Cf Tryz.prog 170 := ⟨fun _ _ => by kernel_rfl⟩
instance : Cf Tryz.prog 174 := ⟨fun _ _ => by kernel_rfl⟩
instance : Cf Tryz.prog 175 := ⟨fun _ _ => by kernel_rfl⟩
instance : Cf Tryz.prog 176 := ⟨fun _ _ => by kernel_rfl⟩
instance : Cf Tryz.prog 177 := ⟨fun _ _ => by kernel_rfl⟩
instance : Cf Tryz.prog 178 := ⟨fun _ _ => by kernel_rfl⟩
instance : Cf Tryz.prog 190 := ⟨fun _ _ => by kernel_rfl⟩
instance : Cf Tryz.prog 191 := ⟨fun _ _ => by kernel_rfl⟩
instance : Cf Tryz.prog 192 := ⟨fun _ _ => by kernel_rfl⟩
instance : Cf Tryz.prog 193 := ⟨fun _ _ => by kernel_rfl⟩
instance : Cf Tryz.prog 194 := ⟨fun _ _ => by kernel_rfl⟩
instance : Cf Tryz.prog 195 := ⟨fun _ _ => by kernel_rfl⟩
instance : Cf Tryz.prog 197 := ⟨fun _ _ => by kernel_rfl⟩
instance : Cf Tryz.prog 198 := ⟨fun _ _ => by kernel_rfl⟩
instance : Cf Tryz.prog 199 := ⟨fun _ _ => by kernel_rfl⟩
instance : Cf Tryz.prog 209 := ⟨fun _ _ => by kernel_rfl⟩
instance : Cf Tryz.prog 210 := ⟨fun _ _ => by kernel_rfl⟩
instance : Cf Tryz.prog 221 := ⟨fun _ _ => by kernel_rfl⟩
instance : Cf Tryz.prog 225 := ⟨fun _ _ => by kernel_rfl⟩
instance : Cf Tryz.prog 226 := ⟨fun _ _ => by kernel_rfl⟩
instance : Cf Tryz.prog 227 := ⟨fun _ _ => by kernel_rfl⟩
instance : Cf Tryz.prog 228 := ⟨fun _ _ => by kernel_rfl⟩
instance : Cf Tryz.prog 229 := ⟨fun _ _ => by kernel_rfl⟩
instance : Cf Tryz.prog 230 := ⟨fun _ _ => by kernel_rfl⟩
instance : Cf Tryz.prog 231 := ⟨fun _ _ => by kernel_rfl⟩
instance : Cf Tryz.prog 232 := ⟨fun _ _ => by kernel_rfl⟩
instance : Cf Tryz.prog 233 := ⟨fun _ _ => by kernel_rfl⟩
instance : Cf Tryz.prog 234 := ⟨fun _ _ => by kernel_rfl⟩
instance : Cf Tryz.prog 235 := ⟨fun _ _ => by kernel_rfl⟩
instance : Cf Tryz.prog 237 := ⟨fun _ _ => by kernel_rfl⟩
instance : Cf Tryz.prog 247 := ⟨fun _ _ => by kernel_rfl⟩
instance : Cf Tryz.prog 248 := ⟨fun _ _ => by kernel_rfl⟩
instance : Cf Tryz.prog 251 := ⟨fun _ _ => by kernel_rfl⟩
instance : Cf Tryz.prog 253 := ⟨fun _ _ => by kernel_rfl⟩
instance : Cf Tryz.prog 254 := ⟨fun _ _ => by kernel_rfl⟩
instance : Cf Tryz.prog 255 := ⟨fun _ _ => by kernel_rfl⟩
instance : Cf Tryz.prog 256 := ⟨fun _ _ => by kernel_rfl⟩
instance : Cf Tryz.prog 257 := ⟨fun _ _ => by kernel_rfl⟩
instance : Cf Tryz.prog 258 := ⟨fun _ _ => by kernel_rfl⟩
instance : Cf Tryz.prog 259 := ⟨fun _ _ => by kernel_rfl⟩
instance : Cf Tryz.prog 260 := ⟨fun _ _ => by kernel_rfl⟩
instance : Cf Tryz.prog 261 := ⟨fun _ _ => by kernel_rfl⟩
instance : Cf Tryz.prog 263 := ⟨fun _ _ => by kernel_rfl⟩
instance : Cf Tryz.prog 266 := ⟨fun _ _ => by kernel_rfl⟩
instance : Cf Tryz.prog 268 := ⟨fun _ _ => by kernel_rfl⟩
instance : Cf Tryz.prog 277 := ⟨fun _ _ => by kernel_rfl⟩
instance : Cf Tryz.prog 280 := ⟨fun _ _ => by kernel_rfl⟩
instance : Cf Tryz.prog 284 := ⟨fun _ _ => by kernel_rfl⟩
instance : Cf Tryz.prog 285 := ⟨fun _ _ => by kernel_rfl⟩
instance : Cf Tryz.prog 286 := ⟨fun _ _ => by kernel_rfl⟩
instance : Cf Tryz.prog 287 := ⟨fun _ _ => by kernel_rfl⟩
instance : Cf Tryz.prog 288 := ⟨fun _ _ => by kernel_rfl⟩
instance : Cf Tryz.prog 293 := ⟨fun _ _ => by kernel_rfl⟩
instance : Cf Tryz.prog 296 := ⟨fun _ _ => by kernel_rfl⟩
instance : Cf Tryz.prog 297 := ⟨fun _ _ => by kernel_rfl⟩
instance : Cf Tryz.prog 298 := ⟨fun _ _ => by kernel_rfl⟩
instance : Cf Tryz.prog 299 := ⟨fun _ _ => by kernel_rfl⟩
instance : Cf Tryz.prog 305 := ⟨fun _ _ => by kernel_rfl⟩
instance : Cf Tryz.prog 306 := ⟨fun _ _ => by kernel_rfl⟩
theorem ia_68_0 : ∀ (b off : Nat) (w : World), (Instr.indexAt 68 (.pointer (some ⟨b, off, none⟩)) (.int .i64 0)).run Tryz.prog w = .ok (.pointer (some ⟨b, off + 0, none⟩)) w := fun _ _ _ => by kernel_rfl
theorem ia_68_1 : ∀ (b off : Nat) (w : World), (Instr.indexAt 68 (.pointer (some ⟨b, off, none⟩)) (.int .i64 1)).run Tryz.prog w = .ok (.pointer (some ⟨b, off + 1, none⟩)) w := fun _ _ _ => by kernel_rfl
theorem ia_72_0 : ∀ (b off : Nat) (w : World), (Instr.indexAt 72 (.pointer (some ⟨b, off, none⟩)) (.int .i64 0)).run Tryz.prog w = .ok (.pointer (some ⟨b, off + 0, none⟩)) w := fun _ _ _ => by kernel_rfl
theorem ia_72_1 : ∀ (b off : Nat) (w : World), (Instr.indexAt 72 (.pointer (some ⟨b, off, none⟩)) (.int .i64 1)).run Tryz.prog w = .ok (.pointer (some ⟨b, off + 1, none⟩)) w := fun _ _ _ => by kernel_rfl
end Go.Proofs.YtmcpnoailbmkkaaGreatDoor
/- Closed facts of the program, as instances. -/
namespace Go.Proofs.YtmcpnoailbmkkaaGreatDoor
open Go Go.RowKit Go.Proofs

instance gu_1 : Siz Tryz.prog 5 1 := ⟨fun _ => by kernel_rfl⟩
instance gu_2 : Siz Tryz.prog 113 1 := ⟨fun _ => by kernel_rfl⟩
instance gu_3 : Siz Tryz.prog 142 1 := ⟨fun _ => by kernel_rfl⟩
instance gu_4 : Agg Tryz.prog 113 false := ⟨fun _ => by kernel_rfl⟩
instance gu_5 : Agg Tryz.prog 142 false := ⟨fun _ => by kernel_rfl⟩
instance gu_6 : Fof Tryz.prog 144 0 0 := ⟨fun _ _ _ => by kernel_rfl⟩
instance gu_7 : Fof Tryz.prog 144 1 1 := ⟨fun _ _ _ => by kernel_rfl⟩
instance gu_8 : Inf Tryz.prog 5 (.int .u8 0) 1 1 := ⟨by kernel_rfl⟩
instance gu_9 : Cf Tryz.prog 109 := ⟨fun _ _ => by kernel_rfl⟩
instance gu_10 : Und Tryz.prog 220 (.pointer 5) := ⟨by kernel_rfl⟩
end Go.Proofs.YtmcpnoailbmkkaaGreatDoor
