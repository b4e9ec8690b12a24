import Derived.Test.YtjkolebffbeeeaaGreatDoorG3
/- The walk by live slots: operations with the program's facts as instances; strings; panics; short rules, and runs of steps. Over any program. -/
namespace Go.Proofs.YtjkolebffbeeeaaGreatDoor
open Go Go.RowKit Go.Proofs Go.Shelf
attribute [local go_sem] Oper.semAt_some

/-! ### Strings -/
def ltS (a b : ByteArray) : Bool := Op.bytesLess a.toList b.toList
theorem ba_list (a b : ByteArray) : (a.toList == b.toList) = decide (a = b) := by
 by_cases h : a = b
 ·subst h; simp
 ·have : ¬ a.toList = b.toList := fun e => h (WideShapes.bytes_inj (by rw [← ByteArray.toList_eq, ← ByteArray.toList_eq]; exact e))
  rw [decide_eq_false h]; simpa using this
section
variable {P : Program} {ρ : Operand → Value} {o : Oper} {w : World} {x y : Operand} {t : TypeId}
theorem ex_eqlS {a b : ByteArray} {ty : TypeId} (ho : o.op = .binOp .eql t x y ty) (hx : ρ x = .string a) (hy : ρ y = .string b) : (execOp ρ o).run P w = .ok (.value (.bool (decide (a = b)))) w := by
 rw [← ba_list]; unfold execOp; simp only [ho, hx, hy]; go_simp
theorem ex_neqS {a b : ByteArray} {ty : TypeId} (ho : o.op = .binOp .neq t x y ty) (hx : ρ x = .string a) (hy : ρ y = .string b) : (execOp ρ o).run P w = .ok (.value (.bool (decide (¬ a = b)))) w := by
 have e : decide (¬ a = b) = !(a.toList == b.toList) := by rw [ba_list]; simp
 rw [e]; unfold execOp; simp only [ho, hx, hy]; go_simp
theorem ex_lssS {a b : ByteArray} {ty : TypeId} (ho : o.op = .binOp .lss t x y ty) (hx : ρ x = .string a) (hy : ρ y = .string b) : (execOp ρ o).run P w = .ok (.value (.bool (ltS a b))) w := by
 unfold ltS execOp; simp only [ho, hx, hy]; go_simp
theorem ex_leqS {a b : ByteArray} {ty : TypeId} (ho : o.op = .binOp .leq t x y ty) (hx : ρ x = .string a) (hy : ρ y = .string b) : (execOp ρ o).run P w = .ok (.value (.bool (ltS a b || decide (a = b)))) w := by
 rw [← ba_list]; unfold ltS execOp; simp only [ho, hx, hy]; go_simp
theorem ex_catS {a b : ByteArray} {ty : TypeId} (ho : o.op = .binOp .add t x y ty) (hx : ρ x = .string a) (hy : ρ y = .string b) (hl : a.size + b.size ≤ 1000000000) : (execOp ρ o).run P w = .ok (.value (.string (a ++ b))) w := by
 unfold execOp; simp only [ho, hx, hy]
 go_simp
 omega
theorem ex_cmpK {k : IntKind} {a b : Int} {ty : TypeId} {op : BinOp} {r : Bool} (hop : (op == .eql || op == .neq || op == .lss || op == .leq || op == .gtr || op == .geq) = true) (ho : o.op = .binOp op t x y ty) (hx : ρ x = .int k a) (hy : ρ y = .int k b) (hr : ∀ w, (Op.intCmp op a b).run P w = .ok (.bool r) w) : (execOp ρ o).run P w = .ok (.value (.bool r)) w := by
 have h := hr w
 unfold execOp; simp only [ho, hx, hy]
 cases op <;> simp at hop <;> go_simp <;> simp_all [Op.intCmp]
end
/-! ### Operations without memory -/
section
variable {P : Program} {n : Nat} {B : Bs} {l : Sl} {H H' : List It} {o : Oper} {x y : Operand} {t ty : TypeId}
theorem pAdd {a b : Int} (ho : o.op = .binOp .add t x y ty) (hx : evl l x = some (.int .i64 a)) (hy : evl l y = some (.int .i64 b)) (hb : -9223372036854775808 ≤ a + b ∧ a + b ≤ 9223372036854775807 := by omega) : RP P n l o (.int .i64 (a + b)) := rp2 hx hy (fun _ h1 h2 _ => ex_add ho h1 h2 hb)
theorem pSub {a b : Int} (ho : o.op = .binOp .sub t x y ty) (hx : evl l x = some (.int .i64 a)) (hy : evl l y = some (.int .i64 b)) (hb : -9223372036854775808 ≤ a - b ∧ a - b ≤ 9223372036854775807 := by omega) : RP P n l o (.int .i64 (a - b)) := rp2 hx hy (fun _ h1 h2 _ => ex_sub ho h1 h2 hb)
theorem pMul {a b : Int} (ho : o.op = .binOp .mul t x y ty) (hx : evl l x = some (.int .i64 a)) (hy : evl l y = some (.int .i64 b)) (hb : -9223372036854775808 ≤ a * b ∧ a * b ≤ 9223372036854775807 := by omega) : RP P n l o (.int .i64 (a * b)) := rp2 hx hy (fun _ h1 h2 _ => ex_mul ho h1 h2 hb)
theorem pQuo {a b : Int} (ho : o.op = .binOp .quo t x y ty) (hx : evl l x = some (.int .i64 a)) (hy : evl l y = some (.int .i64 b)) (h1 : 0 ≤ a ∧ a ≤ 9223372036854775807 := by omega) (h2 : 0 < b := by omega) : RP P n l o (.int .i64 (a / b)) := rp2 hx hy (fun _ h3 h4 _ => ex_quo ho h3 h4 h1 h2)
theorem pRem {a b : Int} (ho : o.op = .binOp .rem t x y ty) (hx : evl l x = some (.int .i64 a)) (hy : evl l y = some (.int .i64 b)) (h1 : 0 ≤ a ∧ a ≤ 9223372036854775807 := by omega) (h2 : 0 < b := by omega) : RP P n l o (.int .i64 (a % b)) := rp2 hx hy (fun _ h3 h4 _ => ex_rem ho h3 h4 h1 h2)
theorem pLss {a b : Int} (ho : o.op = .binOp .lss t x y ty) (hx : evl l x = some (.int .i64 a)) (hy : evl l y = some (.int .i64 b)) : RP P n l o (.bool (decide (a < b))) := rp2 hx hy (fun _ h1 h2 _ => ex_lss ho h1 h2)
theorem pGtr {a b : Int} (ho : o.op = .binOp .gtr t x y ty) (hx : evl l x = some (.int .i64 a)) (hy : evl l y = some (.int .i64 b)) : RP P n l o (.bool (decide (b < a))) := rp2 hx hy (fun _ h1 h2 _ => ex_gtr ho h1 h2)
theorem pLeq {a b : Int} (ho : o.op = .binOp .leq t x y ty) (hx : evl l x = some (.int .i64 a)) (hy : evl l y = some (.int .i64 b)) : RP P n l o (.bool (decide (a ≤ b))) := rp2 hx hy (fun _ h1 h2 _ => ex_leq ho h1 h2)
theorem pGeq {a b : Int} (ho : o.op = .binOp .geq t x y ty) (hx : evl l x = some (.int .i64 a)) (hy : evl l y = some (.int .i64 b)) : RP P n l o (.bool (decide (b ≤ a))) := rp2 hx hy (fun _ h1 h2 _ => ex_geq ho h1 h2)
theorem pEql {a b : Int} (ho : o.op = .binOp .eql t x y ty) (hx : evl l x = some (.int .i64 a)) (hy : evl l y = some (.int .i64 b)) : RP P n l o (.bool (decide (a = b))) := rp2 hx hy (fun _ h1 h2 _ => ex_eqlD ho h1 h2)
theorem pNeq {a b : Int} (ho : o.op = .binOp .neq t x y ty) (hx : evl l x = some (.int .i64 a)) (hy : evl l y = some (.int .i64 b)) : RP P n l o (.bool (decide (a ≠ b))) := rp2 hx hy (fun _ h1 h2 _ => ex_neqD ho h1 h2)
theorem pLssK {k : IntKind} {a b : Int} (ho : o.op = .binOp .lss t x y ty) (hx : evl l x = some (.int k a)) (hy : evl l y = some (.int k b)) : RP P n l o (.bool (decide (a < b))) := rp2 hx hy (fun _ h1 h2 _ => ex_cmpK rfl ho h1 h2 (fun _ => rfl))
theorem pGtrK {k : IntKind} {a b : Int} (ho : o.op = .binOp .gtr t x y ty) (hx : evl l x = some (.int k a)) (hy : evl l y = some (.int k b)) : RP P n l o (.bool (decide (b < a))) := rp2 hx hy (fun _ h1 h2 _ => ex_cmpK rfl ho h1 h2 (fun _ => rfl))
theorem pNeqK {k : IntKind} {a b : Int} (ho : o.op = .binOp .neq t x y ty) (hx : evl l x = some (.int k a)) (hy : evl l y = some (.int k b)) : RP P n l o (.bool (decide (a ≠ b))) := rp2 hx hy (fun _ h1 h2 _ => by
 have e : decide (a ≠ b) = (a != b) := by by_cases h : a = b <;> simp [h]
 rw [e]; exact ex_cmpK rfl ho h1 h2 (fun _ => rfl))
theorem pEqlS {a b : ByteArray} (ho : o.op = .binOp .eql t x y ty) (hx : evl l x = some (.string a)) (hy : evl l y = some (.string b)) : RP P n l o (.bool (decide (a = b))) := rp2 hx hy (fun _ h1 h2 _ => ex_eqlS ho h1 h2)
theorem pNeqS {a b : ByteArray} (ho : o.op = .binOp .neq t x y ty) (hx : evl l x = some (.string a)) (hy : evl l y = some (.string b)) : RP P n l o (.bool (decide (¬ a = b))) := rp2 hx hy (fun _ h1 h2 _ => ex_neqS ho h1 h2)
theorem pLssS {a b : ByteArray} (ho : o.op = .binOp .lss t x y ty) (hx : evl l x = some (.string a)) (hy : evl l y = some (.string b)) : RP P n l o (.bool (ltS a b)) := rp2 hx hy (fun _ h1 h2 _ => ex_lssS ho h1 h2)
theorem pLeqS {a b : ByteArray} (ho : o.op = .binOp .leq t x y ty) (hx : evl l x = some (.string a)) (hy : evl l y = some (.string b)) : RP P n l o (.bool (ltS a b || decide (a = b))) := rp2 hx hy (fun _ h1 h2 _ => ex_leqS ho h1 h2)
theorem pCatS {a b : ByteArray} (ho : o.op = .binOp .add t x y ty) (hx : evl l x = some (.string a)) (hy : evl l y = some (.string b)) (hl : a.size + b.size ≤ 1000000000 := by omega) : RP P n l o (.string (a ++ b)) := rp2 hx hy (fun _ h1 h2 _ => ex_catS ho h1 h2 hl)
theorem pNot {b : Bool} (ho : o.op = .unOp .not t x) (hx : evl l x = some (.bool b)) : RP P n l o (.bool (!b)) := rp1 hx (fun _ h1 _ => ex_not ho h1)
theorem pLen {A : Option Addr} {m c : Nat} {e : TypeId} [u : Und P t (.slice e)] (ho : o.op = .call { callee := .builtin .len, args := #[x], argTypes := #[t] }) (hx : evl l x = some (.slice A m c)) : RP P n l o (.int .i64 (m : Nat)) := rp1 hx (fun _ h1 _ => ex_len ho u.h h1)
theorem pLenS {s : ByteArray} [u : Und P t .string] (ho : o.op = .call { callee := .builtin .len, args := #[x], argTypes := #[t] }) (hx : evl l x = some (.string s)) : RP P n l o (.int .i64 (s.size : Nat)) := rp1 hx (fun ρ h1 w => by
 have hu := u.h
 unfold execOp
 simp only [ho, resolve, List.map_toArray, List.map_cons, List.map_nil, h1]
 go_simp)
theorem pMax {a b : Int} {t1 t2 : TypeId} (ho : o.op = .call { callee := .builtin .max, args := #[x, y], argTypes := #[t1, t2] }) (hx : evl l x = some (.int .i64 a)) (hy : evl l y = some (.int .i64 b)) : RP P n l o (.int .i64 (max a b)) := rp2 hx hy (fun _ h1 h2 _ => ex_max ho h1 h2)
theorem pMin {a b : Int} {t1 t2 : TypeId} (ho : o.op = .call { callee := .builtin .min, args := #[x, y], argTypes := #[t1, t2] }) (hx : evl l x = some (.int .i64 a)) (hy : evl l y = some (.int .i64 b)) : RP P n l o (.int .i64 (min a b)) := rp2 hx hy (fun _ h1 h2 _ => ex_min ho h1 h2)
/-- A byte of a string. -/
theorem pByte {s : ByteArray} {i : Nat} {b : UInt8} [u : Und P t .string] (ho : o.op = .index t x y) (hx : evl l x = some (.string s)) (hy : evl l y = some (.int .i64 (i : Nat))) (hb : s[i]? = some b) : RP P n l o (.int .u8 b.toNat) := rp2 hx hy (fun ρ h1 h2 w => by
 have hr : (Instr.index t (.string s) (.int .i64 (i : Nat))).run P w = .ok (.int .u8 b.toNat) w := by
  unfold Instr.index
  simp only [asIntOf, Sem.run_bind, Sem.run_pure, Result.andThen_ok, run_underlying u.h, Int.toNat_natCast, show (0 : Int) ≤ (i : Int) from Int.natCast_nonneg i, if_true, hb]
 unfold execOp; simp only [ho, h1, h2, Sem.run_bind, hr, Result.andThen_ok, Sem.run_pure])
/-- A field of a struct; its cells. -/
class Fld (P : Program) (t f : Nat) (k : outParam Nat) (m : outParam Nat) (agg : outParam Bool) : Prop where
 h : ∀ (cs : Array Value) (w : World), (Instr.field t (.agg cs) f).run P w = (part (match P.underlying t with | some (.struct fs) => (match fs[f]? with | some g => g.type | none => 0) | _ => 0) cs k).run P w
theorem pExt {i : Nat} {v : Value} {vs : List Value} (ho : o.op = .extract x i) (hx : evl l x = some (.tuple vs.toArray)) (hv : vs[i]? = some v) : RP P n l o v := rp1 hx (fun ρ h1 w => by
 have hr : (Instr.extract (.tuple vs.toArray) i).run P w = .ok v w := by
  unfold Instr.extract; simp only [List.getElem?_toArray, hv]; rfl
 unfold execOp; simp only [ho, h1, Sem.run_bind, hr, Result.andThen_ok, Sem.run_pure])
theorem pIface {v : Value} (hu : ∀ w, (Instr.makeInterface t v).run P w = .ok (.iface t v) w) (ho : o.op = .makeInterface t x) (hx : evl l x = some v) : RP P n l o (.iface t v) := rp1 hx (fun ρ h1 w => by
 unfold execOp; simp only [ho, h1, Sem.run_bind, hu, Result.andThen_ok, Sem.run_pure])
theorem pFieldE {s f b X i k : Nat} [h : Fof P s f k] (ho : o.op = .fieldAddr s x f) (hx : evl l x = some (.pointer (some ⟨b, X + i, none⟩))) : RP P n l o (.pointer (some ⟨b, X + (i + k), none⟩)) := rp_fieldE ho hx h.h rfl
theorem pField {s f b off k : Nat} [h : Fof P s f k] (ho : o.op = .fieldAddr s x f) (hx : evl l x = some (.pointer (some ⟨b, off, none⟩))) : RP P n l o (.pointer (some ⟨b, off + k, none⟩)) := rp_field ho hx h.h
theorem pIdx {b off m c k sz : Nat} {e : TypeId} [u : Und P t (.slice e)] [z : Siz P e sz] (ho : o.op = .indexAddr t x y) (hx : evl l x = some (.slice (some ⟨b, off, none⟩) m c)) (hy : evl l y = some (.int .i64 (k : Nat))) (hk : k < m := by omega) : RP P n l o (.pointer (some ⟨b, off + k * sz + 0, none⟩)) := rp2 hx hy (fun _ h1 h2 _ => ex_indexE ho h1 h2 u.h z.h hk)
theorem pIdxI {b off m c sz : Nat} {i : Int} {e : TypeId} (k : Nat) [u : Und P t (.slice e)] [z : Siz P e sz] (ho : o.op = .indexAddr t x y) (hx : evl l x = some (.slice (some ⟨b, off, none⟩) m c)) (hy : evl l y = some (.int .i64 i)) (hi : i = (k : Nat) := by omega) (hk : k < m := by omega) : RP P n l o (.pointer (some ⟨b, off + k * sz + 0, none⟩)) := rp2 hx hy (fun _ h1 h2 _ => ex_indexI ho h1 h2 hi u.h z.h hk)
/-! ### Reads, stores of blocks that are known -/
theorem vCell {b off : Nat} {v : Value} {vs : List Value} {ty : TypeId} [g : Agg P t false] (ho : o.op = .load t x) (hx : evl l x = some (.pointer (some ⟨b, off, none⟩))) (hm : cellB b vs ty ∈ H) (hv : vs[off]? = some v) : RV P n B l H o v := rv_cell ho hx g.h hm hv
theorem vAgg {b off k : Nat} {vs : List Value} {ty : TypeId} (cs : List Value) [g : Agg P t true] [z : Siz P t k] (ho : o.op = .load t x) (hx : evl l x = some (.pointer (some ⟨b, off, none⟩))) (hk : cs.length = k) (hm : cellB b vs ty ∈ H) (hv : (vs.drop off).take cs.length = cs) : RV P n B l H o (.agg cs.toArray) := rv_agg ho hx g.h (by rw [hk]; exact z.h) hm hv
theorem vOwn {α : Type} {k : Nat} {enc : α → List Value} (E : Enc k enc) {m c b j i : Nat} {v : Value} {L : List α} {ty : TypeId} [g : Agg P t false] (ho : o.op = .load t x) (hx : evl l x = some (.pointer (some ⟨b, 0 + j * k + i, none⟩))) (hm : ownB ty k (some ⟨b, 0, none⟩) m c (L.flatMap enc) ∈ H) (hj : j < L.length) (hi : i < k) (hv : (enc (L[j]'hj))[i]? = some v) : RV P n B l H o v := rv_ownE E ho hx g.h hm hj hi hv
theorem vHold {α : Type} {enc : α → List Value} {b p j k i : Nat} {L : List α} {v : Value} [g : Agg P t false] (ho : o.op = .load t x) (hx : evl l x = some (.pointer (some ⟨b, p + j * k + i, none⟩))) (hm : ¬ B.m b) (hc : HoldL k enc B.w b p L) (hj : j < L.length) (hi : i < k) (hv : (enc (L[j]'hj))[i]? = some v) : RV P n B l H o v := rv_hold ho hx g.h hm hc hj hi hv
theorem vHoldA {α : Type} {enc : α → List Value} {k : Nat} (E : Enc k enc) {b p j : Nat} {L : List α} {cs : List Value} [g : Agg P t true] [z : Siz P t k] (ho : o.op = .load t x) (hx : evl l x = some (.pointer (some ⟨b, p + j * k + 0, none⟩))) (hm : ¬ B.m b) (hc : HoldL k enc B.w b p L) (hj : j < L.length) (hv : enc (L[j]'hj) = cs) : RV P n B l H o (.agg cs.toArray) := rv_holdagg E ho hx g.h z.h hm hc hj hv
theorem vOld {b off : Nat} {v : Value} [g : Agg P t false] (ho : o.op = .load t x) (hx : evl l x = some (.pointer (some ⟨b, off, none⟩))) (hm : ¬ B.m b) (hc : B.w.cell? ⟨b, off, none⟩ = some v) : RV P n B l H o v := rv_old ho hx g.h hm hc
theorem wStore {b off k : Nat} {v : Value} {cs vs vs' : List Value} {ty : TypeId} [z : Siz P t k] (ho : o.op = .store t x y) (hd : o.dst = none) (hx : evl l x = some (.pointer (some ⟨b, off, none⟩))) (hy : evl l y = some v) (hcs : v.cells = cs.toArray) (hk : cs.length = k) (h1 : cs.all (·.oneCell') = true) (hat : At (cellB b vs ty) (cellB b vs' ty) H H') (hl : Nat.ble (off + cs.length) vs.length = true) (hv : vs.take off ++ cs ++ vs.drop (off + cs.length) = vs') : OpW P n B (some (cellB b vs ty)) l H o (fun _ : Unit => True) (fun _ => l) (fun _ => H') := ow_store ho hd hx hy hcs (by rw [hk]; exact z.h) h1 hat hl hv
end
end Go.Proofs.YtjkolebffbeeeaaGreatDoor

/- The walk by live slots: drawn regions by a printed order; short rules; runs of steps; panics. Over any program. -/
namespace Go.Proofs.YtjkolebffbeeeaaGreatDoor
open Go Go.RowKit Go.Proofs Go.Shelf

section
variable {P : Program} {n : Nat} {B : Bs} {Q Q' : Exit → Act → World → Prop} {l l' : Sl} {H H' : List It} {ops : Array Oper} {rest : List Oper} {o : Oper} {c x y : Code} {ld lx ord : List Nat} {H0 Hx : List It} {fuel : Nat} {listed : Array Bool}
/-! ### Drawn regions -/
/-- ord: what is taken next (no part of what is said). -/
def JD (_ord : List Nat) (P : Program) (n : Nat) (B : Bs) (ops : Array Oper) (Q : Exit → Act → World → Prop) (ld : List Nat) (H0 : List It) (lx : List Nat) (Hx : List It) (fuel : Nat) (listed : Array Bool) (l : Sl) (H : List It) : Prop := JA P n B ops Q ld H0 lx Hx fuel listed l H
def okT (ops : Array Oper) (listed : Array Bool) (i : Nat) (L : List Nat) : Bool := Region.noSelect ops && (Region.free .any ops listed i && ((Region.ready .any ops listed).contains i && !L.contains i))
def okL (ops : Array Oper) (listed : Array Bool) (i : Nat) (L L' : List Nat) : Bool := Region.noSelect ops && (Region.free .any ops listed i && ((Region.ready .any ops listed).contains i && (L.contains i && !L'.contains i)))
theorem okT_out {i : Nat} {L : List Nat} (h : okT ops listed i L = true) : Region.noSelect ops = true ∧ Region.free .any ops listed i = true ∧ (Region.ready .any ops listed).contains i = true ∧ L.contains i = false := by
 unfold okT at h
 rw [Bool.and_eq_true, Bool.and_eq_true, Bool.and_eq_true, Bool.not_eq_true'] at h; exact h
theorem okL_out {i : Nat} {L L' : List Nat} (h : okL ops listed i L L' = true) : Region.noSelect ops = true ∧ Region.free .any ops listed i = true ∧ (Region.ready .any ops listed).contains i = true ∧ L.contains i = true ∧ L'.contains i = false := by
 unfold okL at h
 rw [Bool.and_eq_true, Bool.and_eq_true, Bool.and_eq_true, Bool.and_eq_true, Bool.not_eq_true'] at h; exact h
theorem xD {id : Nat} {ls : List Oper} (ord ld : List Nat) (h : JD ord P n B ls.toArray Q ld H [] [] ls.length (Array.replicate ls.length false) l H) (hm : P.follows .mixedOrders = true := by kernel_rfl) (hd : B.r = none ∨ ndL ls = true := by first | exact .inl rfl | exact .inr rfl) : J P n B (.region id ls.toArray true) Q l H := J_draw ld hm h (hd := hd)
theorem xDx {id : Nat} {ls : List Oper} (ord ld lx : List Nat) (Hx : List It) (h : JD ord P n B ls.toArray Q ld H lx Hx ls.length (Array.replicate ls.length false) l H) (hk : Pk Hx H := by repeat constructor) (hm : P.follows .mixedOrders = true := by kernel_rfl) (hd : B.r = none ∨ ndL ls = true := by first | exact .inl rfl | exact .inr rfl) : J P n B (.region id ls.toArray true) Q l H := J_drawX ld lx Hx hk hm h (hd := hd)
theorem xDy {id : Nat} {ls : List Oper} (ord ld : List Nat) (H0 : List It) (h : JD ord P n B ls.toArray Q ld H0 [] [] ls.length (Array.replicate ls.length false) l H) (hk : Pk H0 H := by repeat constructor) (hm : P.follows .mixedOrders = true := by kernel_rfl) (hd : B.r = none ∨ ndL ls = true := by first | exact .inl rfl | exact .inr rfl) : J P n B (.region id ls.toArray true) Q l H := J_drawY ld H0 hk hm h (hd := hd)
theorem dO (ord' : List Nat) (h : JD ord' P n B ops Q ld H0 lx Hx fuel listed l H) : JD ord P n B ops Q ld H0 lx Hx fuel listed l H := h
theorem dDone (h : JQ n B Q .normal l H) (hr : Region.ready .any ops listed = [] := by kernel_rfl) : JD [] P n B ops Q ld H0 lx Hx fuel listed l H := JA_done hr h
theorem wAny (h : WN ops n l o true := by first | exact wn0 rfl | exact wn_g rfl rfl rfl rfl) : WN ops n l o true := h
theorem wOff (h : WN ops n l o false := by first | exact wn_g rfl rfl rfl rfl | exact wn_u rfl rfl rfl) : WN ops n l o false := h
theorem dP {i d : Nat} {v : Value} (hi : ops[i]? = some o) (hv : RP P n l o v) (k : JD ord P n B ops Q ld H0 lx Hx fuel (listed.setIfInBounds i true) ((d, v) :: l) H) (hd : o.dst = some d := by rfl) (hc : okT ops listed i (ld ++ lx) = true := by kernel_rfl) (hW : WN ops n l o true := by exact wAny) (hn : Nat.ble n d = false := by rfl) :
  JD (i :: ord) P n B ops Q ld H0 lx Hx (fuel + 1) listed l H := by obtain ⟨h1, h2, h3, h4⟩ := okT_out hc; exact JA_takeP hi hd h1 h2 h3 h4 hW hv hn k
theorem dL {i d : Nat} {v : Value} (hi : ops[i]? = some o) (hv : RV P n B l H0 o v) (k : JD ord P n B ops Q ld H0 lx Hx fuel (listed.setIfInBounds i true) ((d, v) :: l) H) (hd : o.dst = some d := by rfl) (_hl : ld.contains i = true := by rfl) (hc : okL ops listed i ld lx = true := by kernel_rfl) (hk : Pk H0 H := by repeat constructor) (hW : WN ops n l o true := by exact wAny) (hn : Nat.ble n d = false := by rfl) :
  JD (i :: ord) P n B ops Q ld H0 lx Hx (fuel + 1) listed l H := by obtain ⟨h1, h2, h3, h4, h5⟩ := okL_out hc; exact JA_takeL hi hd h1 h2 h3 h4 h5 hk hW hv hn k
theorem dX {i d : Nat} {v : Value} (hi : ops[i]? = some o) (hv : RV P n B l Hx o v) (k : JD ord P n B ops Q ld H0 lx Hx fuel (listed.setIfInBounds i true) ((d, v) :: l) H) (hd : o.dst = some d := by rfl) (_hl : lx.contains i = true := by rfl) (hc : okL ops listed i lx ld = true := by kernel_rfl) (hk : Pk Hx H := by repeat constructor) (hW : WN ops n l o true := by exact wAny) (hn : Nat.ble n d = false := by rfl) :
  JD (i :: ord) P n B ops Q ld H0 lx Hx (fuel + 1) listed l H := by obtain ⟨h1, h2, h3, h4, h5⟩ := okL_out hc; exact JA_takeX hi hd h1 h2 h3 h5 h4 hk hW hv hn k
theorem dF {i d : Nat} (hi : ops[i]? = some o) (hW : WN ops n l o false) (k : JD ord P n B ops Q ld H0 lx Hx fuel (listed.setIfInBounds i true) ((d, undef) :: l) H) (hd : o.dst = some d := by rfl) (_hl : (ld ++ lx).contains i = false := by rfl) (hc : okT ops listed i (ld ++ lx) = true := by kernel_rfl) (hn : Nat.ble n d = false := by rfl) :
  JD (i :: ord) P n B ops Q ld H0 lx Hx (fuel + 1) listed l H := by obtain ⟨h1, h2, h3, h4⟩ := okT_out hc; exact JA_off hi hd h1 h2 h3 h4 hW hn k
theorem dFL {i d : Nat} (hi : ops[i]? = some o) (hW : WN ops n l o false) (k : JD ord P n B ops Q ld H0 lx Hx fuel (listed.setIfInBounds i true) ((d, undef) :: l) H) (hd : o.dst = some d := by rfl) (hl : lx.contains i = false := by rfl) (_hx : ld.contains i = true := by rfl) (hc : okL ops listed i ld lx = true := by kernel_rfl) (hk : Pk H0 H := by repeat constructor) (hn : Nat.ble n d = false := by rfl) :
  JD (i :: ord) P n B ops Q ld H0 lx Hx (fuel + 1) listed l H := by obtain ⟨h1, h2, h3, h4, h5⟩ := okL_out hc; exact JA_offL hi hd h1 h2 h3 hl hk hW hn k
theorem dFX {i d : Nat} (hi : ops[i]? = some o) (hW : WN ops n l o false) (k : JD ord P n B ops Q ld H0 lx Hx fuel (listed.setIfInBounds i true) ((d, undef) :: l) H) (hd : o.dst = some d := by rfl) (hl : ld.contains i = false := by rfl) (_hx : lx.contains i = true := by rfl) (hc : okL ops listed i lx ld = true := by kernel_rfl) (hk : Pk Hx H := by repeat constructor) (hn : Nat.ble n d = false := by rfl) :
  JD (i :: ord) P n B ops Q ld H0 lx Hx (fuel + 1) listed l H := by obtain ⟨h1, h2, h3, h4, h5⟩ := okL_out hc; exact JA_offX hi hd h1 h2 h3 hl hk hW hn k
/-- One operation alone may come up. -/
theorem dW {i : Nat} {m : Option It} {T : Type} {φ : T → Prop} {D : T → Sl} {G : T → List It} (hi : ops[i]? = some o) (h : OpW P n B m l H o φ D G) (k : ∀ t, φ t → JD ord P n B ops Q ld H0 lx Hx fuel (listed.setIfInBounds i true) (D t) (G t)) (hr : Region.ready .any ops listed = [i] := by kernel_rfl) (hm : Kp ops ld lx Hx H i m := by first | exact trivial | exact ⟨by kernel_rfl, .inl (rfl : waitsB _ [] _ = true)⟩ | exact ⟨by kernel_rfl, .inr ⟨rfl, by repeat constructor⟩⟩) (hW : WN ops n l o true := by exact wAny) :
  JD (i :: ord) P n B ops Q ld H0 lx Hx (fuel + 1) listed l H := JA_one hr hi hW h hm k
theorem dS {i : Nat} {m : Option It} {D : Option Addr → Nat → Sl} {G : Option Addr → Nat → List It} (hi : ops[i]? = some o) (h : OpS P n B m l H o D G) (k : ∀ A c, JD ord P n B ops Q ld H0 lx Hx fuel (listed.setIfInBounds i true) (D A c) (G A c)) (hr : Region.ready .any ops listed = [i] := by kernel_rfl) (hm : Kp ops ld lx Hx H i m := by first | exact trivial | exact ⟨by kernel_rfl, .inl (rfl : waitsB _ [] _ = true)⟩ | exact ⟨by kernel_rfl, .inr ⟨rfl, by repeat constructor⟩⟩) (hW : WN ops n l o true := by exact wAny) :
  JD (i :: ord) P n B ops Q ld H0 lx Hx (fuel + 1) listed l H := JA_oneS hr hi hW h hm k
theorem dV {i d : Nat} {v : Value} (hi : ops[i]? = some o) (hv : RV P n B l H o v) (k : JD ord P n B ops Q ld H0 lx Hx fuel (listed.setIfInBounds i true) ((d, v) :: l) H) (hd : o.dst = some d := by rfl) (hr : Region.ready .any ops listed = [i] := by kernel_rfl) (hW : WN ops n l o true := by exact wAny) (hn : Nat.ble n d = false := by rfl) :
  JD (i :: ord) P n B ops Q ld H0 lx Hx (fuel + 1) listed l H := JA_oneV hr hi hd hW hv hn k
theorem dDec {d : Nat} {p : Prop} [Decidable p] (h1 : p → JD ord P n B ops Q ld H0 lx Hx fuel listed ((d, .bool true) :: l) H) (h2 : ¬ p → JD ord P n B ops Q ld H0 lx Hx fuel listed ((d, .bool false) :: l) H) : JD ord P n B ops Q ld H0 lx Hx fuel listed ((d, .bool (decide p)) :: l) H := JA_dec h1 h2
theorem dBool {d : Nat} {b : Bool} (h1 : b = true → JD ord P n B ops Q ld H0 lx Hx fuel listed ((d, .bool true) :: l) H) (h2 : b = false → JD ord P n B ops Q ld H0 lx Hx fuel listed ((d, .bool false) :: l) H) : JD ord P n B ops Q ld H0 lx Hx fuel listed ((d, .bool b) :: l) H := JA_bool h1 h2
theorem dDecT {d : Nat} {p : Prop} [Decidable p] (h1 : JD ord P n B ops Q ld H0 lx Hx fuel listed ((d, .bool true) :: l) H) (hp : p := by omega) : JD ord P n B ops Q ld H0 lx Hx fuel listed ((d, .bool (decide p)) :: l) H := JA_decT hp h1
theorem dDecF {d : Nat} {p : Prop} [Decidable p] (h1 : JD ord P n B ops Q ld H0 lx Hx fuel listed ((d, .bool false) :: l) H) (hp : ¬ p := by omega) : JD ord P n B ops Q ld H0 lx Hx fuel listed ((d, .bool (decide p)) :: l) H := JA_decF hp h1
theorem dBoolT {d : Nat} {b : Bool} (h1 : JD ord P n B ops Q ld H0 lx Hx fuel listed ((d, .bool true) :: l) H) (hb : b = true := by assumption) : JD ord P n B ops Q ld H0 lx Hx fuel listed ((d, .bool b) :: l) H := JA_boolT hb h1
theorem dBoolF {d : Nat} {b : Bool} (h1 : JD ord P n B ops Q ld H0 lx Hx fuel listed ((d, .bool false) :: l) H) (hb : b = false := by assumption) : JD ord P n B ops Q ld H0 lx Hx fuel listed ((d, .bool b) :: l) H := JA_boolF hb h1
theorem dFact (h : (∃ w, Wd B H w) → JD ord P n B ops Q ld H0 lx Hx fuel listed l H) : JD ord P n B ops Q ld H0 lx Hx fuel listed l H := JA_fact h
/-! ### Plain regions -/
theorem aDecT {d : Nat} {p : Prop} [Decidable p] (h1 : JL P n B ops Q rest ((d, .bool true) :: l) H) (hp : p := by omega) : JL P n B ops Q rest ((d, .bool (decide p)) :: l) H := JL_decT hp h1
theorem aDecF {d : Nat} {p : Prop} [Decidable p] (h1 : JL P n B ops Q rest ((d, .bool false) :: l) H) (hp : ¬ p := by omega) : JL P n B ops Q rest ((d, .bool (decide p)) :: l) H := JL_decF hp h1
theorem aBoolT {d : Nat} {b : Bool} (h1 : JL P n B ops Q rest ((d, .bool true) :: l) H) (hb : b = true := by assumption) : JL P n B ops Q rest ((d, .bool b) :: l) H := JL_boolT hb h1
theorem aBoolF {d : Nat} {b : Bool} (h1 : JL P n B ops Q rest ((d, .bool false) :: l) H) (hb : b = false := by assumption) : JL P n B ops Q rest ((d, .bool b) :: l) H := JL_boolF hb h1
theorem aP {v : Value} {d : Nat} (hv : RP P n l o v) (k : JL P n B ops Q rest ((d, v) :: l) H) (hd : o.dst = some d := by rfl) (hW : WN ops n l o true := by exact wAny) (hn : Nat.ble n d = false := by rfl) : JL P n B ops Q (o :: rest) l H := JL_val hd hW (RP.rv hv) hn k
theorem aV {v : Value} {d : Nat} (hv : RV P n B l H o v) (k : JL P n B ops Q rest ((d, v) :: l) H) (hd : o.dst = some d := by rfl) (hW : WN ops n l o true := by exact wAny) (hn : Nat.ble n d = false := by rfl) : JL P n B ops Q (o :: rest) l H := JL_val hd hW hv hn k
theorem aF {d : Nat} (k : JL P n B ops Q rest ((d, undef) :: l) H) (hd : o.dst = some d := by rfl) (hW : WN ops n l o false := by exact wOff) (hn : Nat.ble n d = false := by rfl) : JL P n B ops Q (o :: rest) l H := JL_off hd hW hn k
theorem aF0 (k : JL P n B ops Q rest l H) (hd : o.dst = none := by rfl) (hW : WN ops n l o false := by exact wOff) : JL P n B ops Q (o :: rest) l H := JL_off0 hd hW k
theorem aW {m : Option It} {T : Type} {φ : T → Prop} {D : T → Sl} {G : T → List It} (h : OpW P n B m l H o φ D G) (k : ∀ t, φ t → JL P n B ops Q rest (D t) (G t)) (hW : WN ops n l o true := by exact wAny) : JL P n B ops Q (o :: rest) l H := JL_op hW h k
theorem aS {m : Option It} {D : Option Addr → Nat → Sl} {G : Option Addr → Nat → List It} (h : OpS P n B m l H o D G) (k : ∀ A c, JL P n B ops Q rest (D A c) (G A c)) (hW : WN ops n l o true := by exact wAny) : JL P n B ops Q (o :: rest) l H := JL_opS hW h k
/-! ### Covers, loops, cuts -/
theorem cov {l' l : Sl} (h : Cov l' l := by repeat (first | exact trivial | refine ⟨rfl, ?_⟩ | refine ⟨congrArg some (by go_num), ?_⟩ | refine ⟨congrArg (fun x => some (Value.int .i64 x)) (by omega), ?_⟩)) : Cov l' l := h
theorem kJ (l' : Sl) (h : J P n B c Q l' H) (hc : Cov l' l := by exact cov) : J P n B c Q l H := J_keep hc h
theorem kL (l' : Sl) (h : JL P n B ops Q rest l' H) (hc : Cov l' l := by exact cov) : JL P n B ops Q rest l H := JL_keep hc h
theorem kD (l' : Sl) (h : JD ord P n B ops Q ld H0 lx Hx fuel listed l' H) (hc : Cov l' l := by exact cov) : JD ord P n B ops Q ld H0 lx Hx fuel listed l H := JA_keep hc h
theorem kQ {e : Exit} (l' : Sl) (h : JQ n B Q e l' H) (hc : Cov l' l := by exact cov) : JQ n B Q e l H := JQ_keep hc h
theorem xL {T : Type} (φ : T → Prop) (L : T → Sl) (HH : T → List It) (μ : T → Nat) (t0 : T) (h0 : φ t0) (round : ∀ t, φ t → J P n B c (Exit.then (LI n (fun _ => B) φ L HH μ (μ t)) Q) (L t) (HH t)) (hl : Cov (L t0) l := by exact cov) (hH : Pk (HH t0) H := by repeat constructor) : J P n B (.loop c) Q l H := J_loop φ L HH μ t0 h0 hl hH round
theorem xR {T : Type} {φ : T → Prop} {L : T → Sl} {HH : T → List It} {μ : T → Nat} {m : Nat} (t : T) (h0 : φ t) (hm : μ t < m) (hl : Cov (L t) l := by exact cov) (hH : Pk (HH t) H := by repeat constructor) : JQ n B (Exit.then (LI n (fun _ => B) φ L HH μ m) Q) .normal l H := JQ_round (B := fun _ => B) t h0 hm hl hH
theorem xC {T : Type} (φ : T → Prop) (L : T → Sl) (HH : T → List It) (h1 : J P n B x (Exit.then (CutP n B φ L HH) Q) l H) (h2 : ∀ t, φ t → J P n B y Q (L t) (HH t)) : J P n B (x.seq y) Q l H := J_cut φ L HH h1 h2
theorem xE {T : Type} {φ : T → Prop} {L : T → Sl} {HH : T → List It} (t : T) (h0 : φ t) (hl : Cov (L t) l := by exact cov) (hH : Pk (HH t) H := by repeat constructor) : JQ n B (Exit.then (CutP n B φ L HH) Q) .normal l H := JQ_cut t h0 hl hH
/-! ### Panics -/
/-- A call that panics. -/
theorem aPan {f : FuncId} {args : Array Value} {ch : List PanicEntry} (he : EC P n l o f args) (hC : ∀ w, Wd B H w → Calls P f args w (fun e w' => e = .panicked ch ∧ Below w.heap.size w w')) (k : JQ n B Q (.panic ch) l H) (hW : WN ops n l o true := by exact wAny) : JL P n B ops Q (o :: rest) l H := fun a w ha hw =>
 wpList_step (fun K _ => by
  rw [if_pos (hW.D ha)]
  unfold Oper.wp
  rw [show (execOp (B.df a).eval o).run P w = _ from he a w ha]
  refine (hC w hw).mono ?_
  rintro e w' ⟨rfl, h2⟩
  exact k a w' ha (hw.up h2))
/-- A call that panics, in a region that draws its order. -/
theorem dPan {i : Nat} {f : FuncId} {args : Array Value} {ch : List PanicEntry} (hi : ops[i]? = some o) (he : EC P n l o f args) (hC : ∀ w, Wd B H w → Calls P f args w (fun e w' => e = .panicked ch ∧ Below w.heap.size w w')) (k : JQ n B Q (.panic ch) [] H) (hr : Region.ready .any ops listed = [i] := by kernel_rfl) (hW : WN ops n l o true := by exact wAny) : JD (i :: ord) P n B ops Q ld H0 lx Hx (fuel + 1) listed l H := fun a w ha hw =>
 wpAnyP_one hr (wpOp_wp hi (hW a ha) (by
  unfold Oper.wp
  rw [show (execOp (B.df a).eval o).run P w = _ from he a w ha]
  refine (hC w hw).mono ?_
  rintro e w' ⟨rfl, h2⟩
  intro a' h3 h4
  have e1 : a' = B.df { a' with defers := [] } := by cases a'; simp only [Bs.df] at h3 ⊢; rw [h3]
  rw [e1]
  exact k { a' with defers := [] } w' ⟨h4.trans ha.size, rfl, fun _ _ h => (by cases h)⟩ (hw.up h2)))
/-- panic(x). -/
theorem aPanic {x : Operand} {v : Value} {t : TypeId} (ho : o.op = .panic x) (hx : evl l x = some (.iface t v)) (k : JQ n B Q (.panic [{ v := .iface t v, recovered := false }]) l H) (hW : WN ops n l o true := by exact wAny) : JL P n B ops Q (o :: rest) l H := fun a w ha hw =>
 wpList_step (fun K _ => by
  rw [if_pos (hW.D ha)]
  have hr : (execOp (B.df a).eval o).run P w = .halt (.panic (.iface t v)) w := by
   unfold execOp; rw [ho]; simp only [ha.evD hx]; rfl
  unfold Oper.wp
  rw [hr]
  exact k a w ha hw)
theorem JR_panic {fn : Func} {R : Ending → World → Prop} {ch : List PanicEntry} (hR : ∀ w, Wd B H w → R (.panicked ch) w) (hB : B.d = [] := by rfl) : JQ n B (bodyPost P fn R) (.panic ch) l H := fun _ w _ hw => ⟨hB, hR w hw⟩
theorem JQ_then_p {K : Act → World → Prop} {ch : List PanicEntry} (h : JQ n B Q (.panic ch) l H) : JQ n B (Exit.then K Q) (.panic ch) l H := fun a w ha hw => h a w ha hw
theorem JQ_block_p {i : Nat} {ch : List PanicEntry} (h : JQ n B Q (.panic ch) l H) : JQ n B (Exit.inBlock i Q) (.panic ch) l H := fun a w ha hw => h a w ha hw
end
end Go.Proofs.YtjkolebffbeeeaaGreatDoor

/- The walk by live slots: runs of steps; calls, new memory, in short. Over any program. -/
namespace Go.Proofs.YtjkolebffbeeeaaGreatDoor
open Go Go.RowKit Go.Proofs Go.Shelf

section
variable {P : Program} {n : Nat} {B : Bs} {Q Q' : Exit → Act → World → Prop} {l l' : Sl} {H H' : List It} {ops : Array Oper} {rest : List Oper} {o : Oper} {c x y : Code} {ld lx ord : List Nat} {H0 Hx : List It} {fuel : Nat} {listed : Array Bool}
def isBin : Op → Bool | .binOp .. => true | _ => false
def isCall : Op → Bool | .call _ => true | _ => false
def isLoad : Op → Bool | .load .. => true | _ => false
def isStore : Op → Bool | .store .. => true | _ => false
theorem gBin {v : Value} (_hk : isBin o.op = true := by rfl) (h : RP P n l o v := by
 first
  | exact pLss rfl rfl rfl | exact pAdd rfl rfl rfl | exact pEql rfl rfl rfl | exact pNeq rfl rfl rfl | exact pLeq rfl rfl rfl | exact pGtr rfl rfl rfl | exact pGeq rfl rfl rfl
  | exact pSub rfl rfl rfl | exact pEqlS rfl rfl rfl | exact pNeqS rfl rfl rfl | exact pLssS rfl rfl rfl | exact pLeqS rfl rfl rfl | exact pMul rfl rfl rfl
  | exact pCatS rfl rfl rfl | exact pNeqK rfl rfl rfl | exact pLssK rfl rfl rfl | exact pGtrK rfl rfl rfl | exact pQuo rfl rfl rfl | exact pRem rfl rfl rfl) : RP P n l o v := h
theorem gCall {v : Value} (_hk : isCall o.op = true := by rfl) (h : RP P n l o v := by
 first | exact pLen rfl rfl | exact pLenS rfl rfl | exact pMax rfl rfl rfl | exact pMin rfl rfl rfl) : RP P n l o v := h
/-- An operation without memory. -/
theorem pAny {v : Value} (h : RP P n l o v := by
 first
  | exact rp_move rfl rfl | exact rp_assign rfl rfl | exact gBin | exact gCall | exact rp_pickT rfl rfl rfl | exact rp_pickF rfl rfl rfl | exact rp_nil rfl rfl
  | exact pFieldE rfl rfl | exact pField rfl rfl | exact pIdx rfl rfl rfl | exact pNot rfl rfl | exact pExt rfl rfl rfl | exact rp_func rfl rfl rfl) : RP P n l o v := h
/-- A read of a block that is known. -/
theorem vAny {v : Value} (_hk : isLoad o.op = true := by rfl) (h : RV P n B l H o v := by
 first
  | exact vCell rfl rfl (by repeat constructor) rfl
  | exact vAgg [_, _] rfl rfl rfl (by repeat constructor) rfl
  | exact vAgg [_, _, _] rfl rfl rfl (by repeat constructor) rfl
  | exact vAgg [_, _, _, _] rfl rfl rfl (by repeat constructor) rfl
  | exact vAgg [_, _, _, _, _] rfl rfl rfl (by repeat constructor) rfl
  | exact vAgg [_, _, _, _, _, _] rfl rfl rfl (by repeat constructor) rfl
  | exact vAgg [_, _, _, _, _, _, _] rfl rfl rfl (by repeat constructor) rfl
  | exact vAgg [_, _, _, _, _, _, _, _] rfl rfl rfl (by repeat constructor) rfl
  | exact vAgg [_] rfl rfl rfl (by repeat constructor) rfl) : RV P n B l H o v := h
/-- A store into a block that is known. -/
theorem wAnyS {m : Option It} (_hk : isStore o.op = true := by rfl) (h : OpW P n B m l H o (fun _ : Unit => True) (fun _ => l) (fun _ => H') := by
 first
  | exact wStore (cs := [_]) rfl rfl rfl rfl rfl rfl rfl (by repeat constructor) rfl rfl
  | exact wStore (cs := [_, _]) rfl rfl rfl rfl rfl rfl rfl (by repeat constructor) rfl rfl
  | exact wStore (cs := [_, _, _]) rfl rfl rfl rfl rfl rfl rfl (by repeat constructor) rfl rfl
  | exact wStore (cs := [_, _, _, _]) rfl rfl rfl rfl rfl rfl rfl (by repeat constructor) rfl rfl
  | exact wStore (cs := [_, _, _, _, _]) rfl rfl rfl rfl rfl rfl rfl (by repeat constructor) rfl rfl
  | exact wStore (cs := [_, _, _, _, _, _]) rfl rfl rfl rfl rfl rfl rfl (by repeat constructor) rfl rfl
  | exact wStore (cs := [_, _, _, _, _, _, _, _]) rfl rfl rfl rfl rfl rfl rfl (by repeat constructor) rfl rfl) : OpW P n B m l H o (fun _ : Unit => True) (fun _ => l) (fun _ => H') := h
theorem aW0 {m : Option It} (h : OpW P n B m l H o (fun _ : Unit => True) (fun _ => l) (fun _ => H')) (k : JL P n B ops Q rest l H') (hW : WN ops n l o true := by exact wAny) : JL P n B ops Q (o :: rest) l H := JL_op hW h (fun _ _ => k)
theorem dW0 {i : Nat} {m : Option It} (hi : ops[i]? = some o) (h : OpW P n B m l H o (fun _ : Unit => True) (fun _ => l) (fun _ => H')) (k : JD ord P n B ops Q ld H0 lx Hx fuel (listed.setIfInBounds i true) l H') (hr : Region.ready .any ops listed = [i] := by kernel_rfl) (hm : Kp ops ld lx Hx H i m := by first | exact trivial | exact ⟨by kernel_rfl, .inl (rfl : waitsB _ [] _ = true)⟩ | exact ⟨by kernel_rfl, .inr ⟨rfl, by repeat constructor⟩⟩) (hW : WN ops n l o true := by exact wAny) :
  JD (i :: ord) P n B ops Q ld H0 lx Hx (fuel + 1) listed l H := JA_one hr hi hW h hm (fun _ _ => k)
/-- What is left to show, in a wrap (a tactic might lay hold of it). -/
structure Wr (R : Prop) : Prop where out : R
attribute [local irreducible] J JQ JL JA JD
/-- One step: at an operation of a plain region; of a drawn one; at any place. -/
theorem a1 {R : Prop} (r : R) (h : Wr R → JL P n B ops Q (o :: rest) l H := by
 intro r
 first
  | exact aF r.out | exact aV vAny r.out | exact aW0 wAnyS r.out | exact aP pAny r.out | exact aF0 r.out) : JL P n B ops Q (o :: rest) l H := h ⟨r⟩
theorem d1 {R : Prop} (r : R) (h : Wr R → JD ord P n B ops Q ld H0 lx Hx fuel listed l H := by
 intro r
 first
  | exact dDone r.out | exact dF rfl wOff r.out | exact dL rfl vAny r.out | exact dX rfl vAny r.out | exact dW0 rfl wAnyS r.out | exact dP rfl pAny r.out | exact dFL rfl wOff r.out | exact dFX rfl wOff r.out) : JD ord P n B ops Q ld H0 lx Hx fuel listed l H := h ⟨r⟩
theorem c1 {R : Prop} (r : R) (h : Wr R → J P n B c Q l H := by
 intro r
 first
  | exact J_seq r.out | exact J_reg r.out | exact J_yes rfl rfl r.out | exact J_no rfl rfl r.out | exact J_skip r.out | exact J_block r.out | exact J_exit r.out | exact J_ret r.out | exact J_label r.out) : J P n B c Q l H := h ⟨r⟩
theorem q1 {e : Exit} {R : Prop} (r : R) (h : Wr R → JQ n B Q e l H := by
 intro r
 first
  | exact JQ_then_n r.out | exact JQ_then_x r.out | exact JQ_then_r r.out | exact JQ_block_n r.out | exact JQ_block_r r.out | exact JQ_block_y rfl r.out | exact JQ_block_x rfl r.out | exact JQ_then_p r.out | exact JQ_block_p r.out) : JQ n B Q e l H := h ⟨r⟩
theorem s1 {A R : Prop} (r : R) (h : Wr R → A := by
 intro r
 first
  | (show J _ _ _ _ _ _ _; exact c1 r.out)
  | (show JQ _ _ _ _ _ _; exact q1 r.out)
  | (show JL _ _ _ _ _ (_ :: _) _ _; exact a1 r.out)
  | (show JL _ _ _ _ _ [] _ _; exact JL_nil r.out)
  | (show JD _ _ _ _ _ _ _ _ _ _ _ _ _ _; exact d1 r.out)) : A := h ⟨r⟩
end
theorem s2 {A R : Prop} (r : R) (h : Wr R → A := by
 intro r
 iterate 2 refine s1 ?_
 exact r.out) : A := h ⟨r⟩
theorem s3 {A R : Prop} (r : R) (h : Wr R → A := by
 intro r
 iterate 3 refine s1 ?_
 exact r.out) : A := h ⟨r⟩
theorem s4 {A R : Prop} (r : R) (h : Wr R → A := by
 intro r
 iterate 4 refine s1 ?_
 exact r.out) : A := h ⟨r⟩
theorem s5 {A R : Prop} (r : R) (h : Wr R → A := by
 intro r
 iterate 5 refine s1 ?_
 exact r.out) : A := h ⟨r⟩
theorem s6 {A R : Prop} (r : R) (h : Wr R → A := by
 intro r
 iterate 6 refine s1 ?_
 exact r.out) : A := h ⟨r⟩
theorem s7 {A R : Prop} (r : R) (h : Wr R → A := by
 intro r
 iterate 7 refine s1 ?_
 exact r.out) : A := h ⟨r⟩
theorem s8 {A R : Prop} (r : R) (h : Wr R → A := by
 intro r
 iterate 8 refine s1 ?_
 exact r.out) : A := h ⟨r⟩
theorem s9 {A R : Prop} (r : R) (h : Wr R → A := by
 intro r
 iterate 9 refine s1 ?_
 exact r.out) : A := h ⟨r⟩
theorem s10 {A R : Prop} (r : R) (h : Wr R → A := by
 intro r
 iterate 10 refine s1 ?_
 exact r.out) : A := h ⟨r⟩
theorem s11 {A R : Prop} (r : R) (h : Wr R → A := by
 intro r
 iterate 11 refine s1 ?_
 exact r.out) : A := h ⟨r⟩
theorem s12 {A R : Prop} (r : R) (h : Wr R → A := by
 intro r
 iterate 12 refine s1 ?_
 exact r.out) : A := h ⟨r⟩
theorem s13 {A R : Prop} (r : R) (h : Wr R → A := by
 intro r
 iterate 13 refine s1 ?_
 exact r.out) : A := h ⟨r⟩
theorem s14 {A R : Prop} (r : R) (h : Wr R → A := by
 intro r
 iterate 14 refine s1 ?_
 exact r.out) : A := h ⟨r⟩
theorem s15 {A R : Prop} (r : R) (h : Wr R → A := by
 intro r
 iterate 15 refine s1 ?_
 exact r.out) : A := h ⟨r⟩
theorem s16 {A R : Prop} (r : R) (h : Wr R → A := by
 intro r
 iterate 16 refine s1 ?_
 exact r.out) : A := h ⟨r⟩
theorem s17 {A R : Prop} (r : R) (h : Wr R → A := by
 intro r
 iterate 17 refine s1 ?_
 exact r.out) : A := h ⟨r⟩
theorem s18 {A R : Prop} (r : R) (h : Wr R → A := by
 intro r
 iterate 18 refine s1 ?_
 exact r.out) : A := h ⟨r⟩
theorem s19 {A R : Prop} (r : R) (h : Wr R → A := by
 intro r
 iterate 19 refine s1 ?_
 exact r.out) : A := h ⟨r⟩
theorem s20 {A R : Prop} (r : R) (h : Wr R → A := by
 intro r
 iterate 20 refine s1 ?_
 exact r.out) : A := h ⟨r⟩
theorem s21 {A R : Prop} (r : R) (h : Wr R → A := by
 intro r
 iterate 21 refine s1 ?_
 exact r.out) : A := h ⟨r⟩
theorem s22 {A R : Prop} (r : R) (h : Wr R → A := by
 intro r
 iterate 22 refine s1 ?_
 exact r.out) : A := h ⟨r⟩
theorem s23 {A R : Prop} (r : R) (h : Wr R → A := by
 intro r
 iterate 23 refine s1 ?_
 exact r.out) : A := h ⟨r⟩
theorem s24 {A R : Prop} (r : R) (h : Wr R → A := by
 intro r
 iterate 24 refine s1 ?_
 exact r.out) : A := h ⟨r⟩
theorem s25 {A R : Prop} (r : R) (h : Wr R → A := by
 intro r
 iterate 25 refine s1 ?_
 exact r.out) : A := h ⟨r⟩
theorem s26 {A R : Prop} (r : R) (h : Wr R → A := by
 intro r
 iterate 26 refine s1 ?_
 exact r.out) : A := h ⟨r⟩
theorem s27 {A R : Prop} (r : R) (h : Wr R → A := by
 intro r
 iterate 27 refine s1 ?_
 exact r.out) : A := h ⟨r⟩
theorem s28 {A R : Prop} (r : R) (h : Wr R → A := by
 intro r
 iterate 28 refine s1 ?_
 exact r.out) : A := h ⟨r⟩
theorem s29 {A R : Prop} (r : R) (h : Wr R → A := by
 intro r
 iterate 29 refine s1 ?_
 exact r.out) : A := h ⟨r⟩
theorem s30 {A R : Prop} (r : R) (h : Wr R → A := by
 intro r
 iterate 30 refine s1 ?_
 exact r.out) : A := h ⟨r⟩
theorem s31 {A R : Prop} (r : R) (h : Wr R → A := by
 intro r
 iterate 31 refine s1 ?_
 exact r.out) : A := h ⟨r⟩
theorem s32 {A R : Prop} (r : R) (h : Wr R → A := by
 intro r
 iterate 32 refine s1 ?_
 exact r.out) : A := h ⟨r⟩
theorem s33 {A R : Prop} (r : R) (h : Wr R → A := by
 intro r
 iterate 33 refine s1 ?_
 exact r.out) : A := h ⟨r⟩
theorem s34 {A R : Prop} (r : R) (h : Wr R → A := by
 intro r
 iterate 34 refine s1 ?_
 exact r.out) : A := h ⟨r⟩
theorem s35 {A R : Prop} (r : R) (h : Wr R → A := by
 intro r
 iterate 35 refine s1 ?_
 exact r.out) : A := h ⟨r⟩
theorem s36 {A R : Prop} (r : R) (h : Wr R → A := by
 intro r
 iterate 36 refine s1 ?_
 exact r.out) : A := h ⟨r⟩
theorem s37 {A R : Prop} (r : R) (h : Wr R → A := by
 intro r
 iterate 37 refine s1 ?_
 exact r.out) : A := h ⟨r⟩
theorem s38 {A R : Prop} (r : R) (h : Wr R → A := by
 intro r
 iterate 38 refine s1 ?_
 exact r.out) : A := h ⟨r⟩
theorem s39 {A R : Prop} (r : R) (h : Wr R → A := by
 intro r
 iterate 39 refine s1 ?_
 exact r.out) : A := h ⟨r⟩
theorem s40 {A R : Prop} (r : R) (h : Wr R → A := by
 intro r
 iterate 40 refine s1 ?_
 exact r.out) : A := h ⟨r⟩
section
variable {P : Program} {n : Nat} {B : Bs} {Q : Exit → Act → World → Prop} {l : Sl} {H : List It} {ops : Array Oper} {rest : List Oper} {o : Oper} {ld lx ord : List Nat} {H0 Hx : List It} {fuel : Nat} {listed : Array Bool}
/-! ### Calls of functions -/
theorem ecF {f : FuncId} {xs : List Operand} {ts : Array TypeId} {vs : List Value} [h : Cf P f] (ho : o.op = .call { callee := .value (.func f), args := xs.toArray, argTypes := ts }) (hx : evs l xs = some vs) : EC P n l o f vs.toArray := ec_fn ho hx h.h
theorem oB {f : FuncId} {xs : List Operand} {ts : Array TypeId} {vs : List Value} {v : Value} {d : Nat} [h : Cf P f] (hC : ∀ w, Wd B H w → Calls P f vs.toArray w (fun e w' => e = .returned v ∧ Below w.heap.size w w')) (ho : o.op = .call { callee := .value (.func f), args := xs.toArray, argTypes := ts } := by rfl) (hx : evs l xs = some vs := by rfl) (hd : o.dst = some d := by rfl) (hn : Nat.ble n d = false := by rfl) : OpW P n B none l H o (fun _ : Unit => True) (fun _ => (d, v) :: l) (fun _ => H) := ow_callB (ecF ho hx) hd hn hC
theorem aCB {f : FuncId} {xs : List Operand} {ts : Array TypeId} {vs : List Value} {v : Value} {d : Nat} [h : Cf P f] (hC : ∀ w, Wd B H w → Calls P f vs.toArray w (fun e w' => e = .returned v ∧ Below w.heap.size w w')) (k : JL P n B ops Q rest ((d, v) :: l) H) (ho : o.op = .call { callee := .value (.func f), args := xs.toArray, argTypes := ts } := by rfl) (hx : evs l xs = some vs := by rfl) (hd : o.dst = some d := by rfl) (hW : WN ops n l o true := by exact wAny) (hn : Nat.ble n d = false := by rfl) : JL P n B ops Q (o :: rest) l H := JL_op hW (oB hC ho hx hd hn) (fun _ _ => k)
theorem dCB {i : Nat} {f : FuncId} {xs : List Operand} {ts : Array TypeId} {vs : List Value} {v : Value} {d : Nat} [h : Cf P f] (hi : ops[i]? = some o) (hC : ∀ w, Wd B H w → Calls P f vs.toArray w (fun e w' => e = .returned v ∧ Below w.heap.size w w')) (k : JD ord P n B ops Q ld H0 lx Hx fuel (listed.setIfInBounds i true) ((d, v) :: l) H) (ho : o.op = .call { callee := .value (.func f), args := xs.toArray, argTypes := ts } := by rfl) (hx : evs l xs = some vs := by rfl) (hd : o.dst = some d := by rfl) (hr : Region.ready .any ops listed = [i] := by kernel_rfl) (hW : WN ops n l o true := by exact wAny) (hn : Nat.ble n d = false := by rfl) : JD (i :: ord) P n B ops Q ld H0 lx Hx (fuel + 1) listed l H := JA_one (m := none) hr hi hW (oB hC ho hx hd hn) trivial (fun _ _ => k)
theorem Back.of {v : Value} {w w' : World} {e : Ending} (h : e = .returned v ∧ w = w') : Back v w e w' := ⟨h.1, by rw [← h.2]; exact Below.refl _ _⟩
theorem oR {f : FuncId} {xs : List Operand} {ts : Array TypeId} {vs : List Value} {T : Type} {φ : T → Prop} {V : T → Value} {G : T → List It} {d : Nat} [h : Cf P f] (hC : ∀ w, Wd B H w → Calls P f vs.toArray w (Ret w φ V G)) (ho : o.op = .call { callee := .value (.func f), args := xs.toArray, argTypes := ts } := by rfl) (hx : evs l xs = some vs := by rfl) (hd : o.dst = some d := by rfl) (hn : Nat.ble n d = false := by rfl) (hr : ∀ t, ((G t).all fun A => !A.ro) = true := by exact fun _ => rfl) : OpW P n B none l H o φ (fun t => (d, V t) :: l) (fun t => G t ++ H) := ow_callR (ecF ho hx) hd hn hr hC
theorem oS {α : Type} {ty k : Nat} {enc : α → List Value} {L : List α} {f : FuncId} {xs : List Operand} {ts : Array TypeId} {vs : List Value} {d : Nat} [h : Cf P f] (hC : ∀ w, Wd B H w → Calls P f vs.toArray w (RetS ty k enc L w)) (ho : o.op = .call { callee := .value (.func f), args := xs.toArray, argTypes := ts } := by rfl) (hx : evs l xs = some vs := by rfl) (hd : o.dst = some d := by rfl) (hn : Nat.ble n d = false := by rfl) : OpS P n B none l H o (fun A c => (d, .slice A L.length c) :: l) (fun A c => ownB ty k A L.length c (L.flatMap enc) :: H) := ow_callS (ecF ho hx) hd hn hC
theorem oM {A : It} {T : Type} {φ : T → Prop} {V : T → Value} {C : T → It} {G : T → List It} {f : FuncId} {xs : List Operand} {ts : Array TypeId} {vs : List Value} {d : Nat} [h : Cf P f] (hC : ∀ w, Wd B H w → Calls P f vs.toArray w (RetM A φ V C w)) (ho : o.op = .call { callee := .value (.func f), args := xs.toArray, argTypes := ts } := by rfl) (hx : evs l xs = some vs := by rfl) (hd : o.dst = some d := by rfl) (hn : Nat.ble n d = false := by rfl) (hAr : A.ro = false := by rfl) (hCr : ∀ t, (C t).ro = false := by exact fun _ => rfl) (hat : ∀ t, At A (C t) H (G t) := by intro t; repeat constructor) : OpW P n B (some A) l H o φ (fun t => (d, V t) :: l) G := ow_callM (ecF ho hx) hd hn hAr hCr hat hC
theorem oL (HA H1 : List It) {T : Type} {φ : T → Prop} {V : T → Value} {G : T → List It} {f : FuncId} {xs : List Operand} {ts : Array TypeId} {vs : List Value} {d : Nat} [h : Cf P f] (hC : ∀ w, Wd B H w → Wd B HA w → Calls P f vs.toArray w (RetL HA φ V G w)) (ho : o.op = .call { callee := .value (.func f), args := xs.toArray, argTypes := ts } := by rfl) (hx : evs l xs = some vs := by rfl) (hd : o.dst = some d := by rfl) (hn : Nat.ble n d = false := by rfl) (hk : Pk (HA ++ H1) H := by repeat constructor) (hA : (HA.all fun A => !A.ro) = true := by rfl) (hG : ∀ t, ((G t).all fun A => !A.ro) = true := by exact fun _ => rfl) : OpW P n B (some (allI HA)) l H o φ (fun t => (d, V t) :: l) (fun t => G t ++ H1) := ow_callL HA H1 (ecF ho hx) hd hn hk hA hG hC
/-! ### New memory -/
theorem dOA (ord' : List Nat) (h : JD ord' P n B ops Q ld H0 lx Hx fuel listed l H) : JA P n B ops Q ld H0 lx Hx fuel listed l H := h
theorem oApp {α : Type} {k : Nat} {enc : α → List Value} (E : Enc k enc) {sl e ty' : TypeId} {z : Value} {bytes d : Nat} {x y : Operand} {A : Option Addr} {c c' b : Nat} {L : List α} {cs : List Value} {G : Option Addr → Nat → List It} (r : α) [u : Und P sl (.slice e)] [i : Inf P e z k bytes] (ho : o.op = .call { callee := .builtin .append, args := #[x, y], argTypes := #[sl, sl] } := by rfl) (hk : 0 < k := by decide) (hzs : z.cells.size = k := by rfl) (hby : bytes ≤ 128 := by decide) (hd : o.dst = some d := by rfl) (hn : Nat.ble n d = false := by rfl) (hx : evl l x = some (.slice A L.length c) := by rfl) (hy : evl l y = some (.slice (some ⟨b, 0, none⟩) 1 c') := by rfl) (hm : cellB b cs ty' ∈ H := by repeat constructor) (hcs : cs = enc r := by rfl) (hl : L.length + 1 ≤ 1000000 := by omega)
  (hat : ∀ A' c', At (ownB e k A L.length c (L.flatMap enc)) (ownB e k A' (L ++ [r]).length c' ((L ++ [r]).flatMap enc)) H (G A' c') := by intro A c; repeat constructor) : OpS P n B (some (ownB e k A L.length c (L.flatMap enc))) l H o (fun A' c' => (d, .slice A' (L ++ [r]).length c') :: l) G := ow_app1 E hk r u.h i.h hzs hby ho hd hn hx hy hm hcs hl hat
theorem oA {d : Nat} {ty : TypeId} {v : Value} {vs : List Value} [z : Zer P ty v] (ho : o.op = .alloc ty := by rfl) (hv : v.cells = vs.toArray := by rfl) (hd : o.dst = some d := by rfl) (hn : Nat.ble n d = false := by rfl) : OpW P n B none l H o (fun b : Nat => B.w.heap.size ≤ b) (fun b => (d, .pointer (some ⟨b, 0, none⟩)) :: l) (fun b => cellB b vs ty :: H) := ow_alloc ho hd z.h hv hn
theorem oX {d : Nat} {x : Operand} {v : Value} {ty : TypeId} (vs : List Value) (ho : o.op = .box ty x := by rfl) (hx : evl l x = some v := by rfl) (hv : v.cells = vs.toArray := by rfl) (hd : o.dst = some d := by rfl) (hn : Nat.ble n d = false := by rfl) : OpW P n B none l H o (fun b : Nat => B.w.heap.size ≤ b) (fun b => (d, .pointer (some ⟨b, 0, none⟩)) :: l) (fun b => cellB b vs ty :: H) := ow_box ho hx hv hd hn
end
end Go.Proofs.YtjkolebffbeeeaaGreatDoor
